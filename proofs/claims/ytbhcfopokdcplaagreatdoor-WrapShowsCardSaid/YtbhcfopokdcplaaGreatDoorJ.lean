/-
  wrap.Says, wrap.Around. Condition: utf8's two tables lie as the library lays them.
-/
import Derived.Test.YtbhcfopokdcplaaGreatDoorI
import Derived.Deep.RegionHeld3
namespace Go.Proofs.YtbhcfopokdcplaaGreatDoor
open Go.RowKit
theorem ofInt_u16 (a : Nat) (ha : a < 65536) : (BitVec.ofInt 16 (a : Int)).toNat = a := by
  rw [BitVec.ofInt_natCast, BitVec.toNat_ofNat]; exact Nat.mod_eq_of_lt (by omega)
theorem mask_lt (m : Nat) (hm : m < 65536) (h : bits .andNot .u16 (m : Int) 63 = 0) : m < 64 := by
  have e : bits .andNot .u16 (m : Int) 63 = ((m &&& 65472 : Nat) : Int) := by
    have hx : m &&& 65472 < 2 ^ 16 := Nat.and_lt_two_pow _ (by omega)
    show IntKind.u16.wrap ((BitVec.ofInt 16 (m : Int) &&& ~~~ BitVec.ofInt 16 (63 : Int)).toNat : Int) = _
    rw [BitVec.toNat_and, ofInt_u16 m hm]
    have : (~~~ BitVec.ofInt 16 (63 : Int)).toNat = 65472 := by decide
    rw [this]
    unfold IntKind.wrap
    simp [IntKind.signed, IntKind.bits]
    omega
  rw [e] at h
  have h2 : m &&& 65472 = 0 := by omega
  have h3 : (m &&& 65472) >>> 6 = (m >>> 6) &&& 1023 := by rw [Nat.shiftRight_and_distrib, show (65472 : Nat) >>> 6 = 1023 from rfl]
  rw [h2, show (1023 : Nat) = 2 ^ 10 - 1 from rfl, Nat.and_two_pow_sub_one_eq_mod, Nat.shiftRight_eq_div_pow] at h3
  simp at h3
  omega
/-- What may be has a mask of abilities alone. -/
theorem ok_mask (x : W) (hm : x.mask < 65536) (h : x.ok = true) : x.mask < 64 := by
  unfold W.ok wrapOK at h
  split at h
  · simp at h; exact mask_lt _ hm h.1
  split at h
  · simp at h; omega
  split at h
  · simp at h; omega
  split at h
  · simp at h; omega
  split at h
  · simp at h; omega
  split at h
  · simp at h; omega
  · simp at h
theorem ok_kind (x : W) (h : x.ok = true) : 1 ≤ x.kind ∧ x.kind ≤ 7 := by
  have h' := fun hk => wrapOK_none x.kind x.mask hk x.num x.text
  unfold W.ok at h
  rcases Nat.lt_or_ge x.kind 8 with h8 | h8
  · rcases Nat.eq_zero_or_pos x.kind with h0 | h0
    · rw [h' (.inl h0)] at h; cases h
    · omega
  · rw [h' (.inr h8)] at h; cases h
/-- What wrappers leave and add, one by one. -/
def sayAll (m : Nat) (ws : List W) : Nat := ws.foldl (fun m x => sayN m x.kind x.mask) m
theorem sayAll_lt : ∀ (ws : List W) (m : Nat), m < 64 → (∀ x ∈ ws, x.mask < 64) → sayAll m ws < 64
  | [], m, hm, _ => hm
  | x :: ws, m, hm, h => sayAll_lt ws _ (sayN_lt m _ _ hm (h x (by simp))) (fun y hy => h y (by simp [hy]))
/-- What Says answers beside its error. -/
def saysN (m : Nat) (ws : List W) : Nat := if checksErr ws = 0 then sayAll m ws else 0
theorem checks_zero {ws : List W} (h : checksErr ws = 0) : ws.length ≤ 16 ∧ ∀ x ∈ ws, x.ok = true := by
  unfold checksErr at h
  split at h
  · cases h
  · split at h
    · rename_i h1 h2; exact ⟨by omega, fun x hx => List.all_eq_true.1 h2 x hx⟩
    · cases h
theorem checks_cases (ws : List W) : checksErr ws = 0 ∨ checksErr ws = 4 ∨ checksErr ws = 70 := by
  unfold checksErr
  split
  · exact .inr (.inl rfl)
  · split
    · exact .inl rfl
    · exact .inr (.inr rfl)
set_option maxRecDepth 100000 in
set_option maxHeartbeats 4000000 in
theorem Says_any (m cap B : Nat) (hm : m < 64) (A : Option Addr) (ws : List W) (w : World) (hB : B ≤ w.heap.size) (hT : Tabs w) (hA : WrapsAt B w A ws) (hw : ∀ x ∈ ws, x.mask < 65536) :
    Calls Tryz.prog 13 #[.int .u16 m, .slice A ws.length cap] w fun e w' => e = .returned (.tuple #[.int .u16 (saysN m ws), .int .i64 (checksErr ws)]) ∧ Below w.heap.size w w' := by
  have hc := checks_any cap B A ws w hB hT hA
  have hand : bits .andNot .u16 (m : Int) 63 = 0 := by
    have h : ∀ m : Fin 64, bits .andNot .u16 (m.val : Nat) 63 = 0 := by decide +kernel
    exact h ⟨m, hm⟩
  have hlen := fun h => (checks_zero (ws := ws) h).1
  have hok := fun h => (checks_zero (ws := ws) h).2
  unfold saysN
  rcases checks_cases ws with h0 | h0 | h0
  · have hlen' : ws.length ≤ 16 := hlen h0
    have hok' := hok h0
    have hmask : ∀ x ∈ ws, x.mask < 64 := fun x hx => ok_mask x (hw x hx) (hok' x hx)
    rw [if_pos h0]
    rw [h0] at hc ⊢
    have HC := Lib.hid hc
    have HA := Lib.hid hA
    have HM := Lib.hid hmask
    clear hc h0 hlen hok hok' hA hT hw hmask
    go_enter Tryz.func13, Tryz.ntmps13
    go_wp2_with (go_at_call 40; refine HC.out.mono ?_; rintro e w1 ⟨rfl, hb1⟩)
    go_loopg [0, 19] ws.length (fun gk c i wr => ∃ k : Nat, k + gk = ws.length ∧ i = .int .i64 k ∧ c = .int .u16 (sayAll m (ws.take k)) ∧ Below w.heap.size w wr)
    case atStart => exact ⟨0, by simp, rfl, rfl, hb1⟩
    case round =>
      obtain ⟨k, hk, rfl, rfl, hb⟩ := hrel
      have HK := Lib.hid hk
      have hkl : k ≤ ws.length := by omega
      have hmk : sayAll m (ws.take k) < 64 := sayAll_lt _ _ hm (fun x hx => HM.out x (List.mem_of_mem_take hx))
      clear hk
      by_cases hlt : k < ws.length
      · have hx : ws[k]? = some ws[k] := List.getElem?_eq_getElem hlt
        obtain ⟨b, o, rfl, hlb, c0, c1, c2, c3⟩ := (HA.out.below (hb.mono hB) (Nat.le_refl _)) k _ hx
        have HX := Lib.hid hx
        clear hx
        generalize ws[k] = x at *
        have hxm := HM.out x (List.mem_of_getElem? HX.out)
        have hs : sayAll m (ws.take (k + 1)) = sayN (sayAll m (ws.take k)) x.kind x.mask := by
          rw [List.take_add_one, HX.out]
          unfold sayAll
          rw [List.foldl_append]
          rfl
        have HS := Lib.hid hs
        generalize sayAll m (ws.take k) = c at *
        have HB := Lib.hid hb
        have hz := hb.size
        clear hb hb1 hs
        go_wp2_with (go_at_call 39; refine (says_any c x.kind x.mask x.num x.text hmk hxm _).mono ?_; rintro e w2 ⟨rfl, hb2⟩)
        have hk1 := HK.out
        go_roundg (gk - 1)
        case measure => omega
        case rel => exact ⟨k + 1, by omega, by go_num, by rw [HS.out], (HB.out.alloc hz _).trans (hb2.mono (by simp; omega))⟩
      · have hkk : k = ws.length := by omega
        have HB := Lib.hid hb
        rw [List.take_of_length_le (by omega)]
        clear hb hb1 hkk
        go_wp2
        go_ret2
        exact ⟨rfl, HB.out⟩
  all_goals
    rw [if_neg (by rw [h0]; decide)]
    rw [h0] at hc ⊢
    have HC := Lib.hid hc
    clear hc h0 hlen hok hA hT hw
    go_enter Tryz.func13, Tryz.ntmps13
    go_wp2_with (go_at_call 40; refine HC.out.mono ?_; rintro e w1 ⟨rfl, hb1⟩)
    go_ret2
    exact ⟨rfl, hb1⟩
end Go.Proofs.YtbhcfopokdcplaaGreatDoor
