/-
  wrap.says; a slice of wrappers in memory; wrap.checks, wrap.Says. Condition: utf8's two tables lie as the library lays them.
-/
import Derived.Test.YtbhcfopokdcplaaGreatDoorH
import Derived.Deep.LoopGhost
namespace Go.Proofs.YtbhcfopokdcplaaGreatDoor
open Go.RowKit
/-- What a wrapper leaves and adds. -/
def sayN (m k mask : Nat) : Nat :=
  if k = 1 then m &&& (63 ^^^ mask) else if k = 2 then m &&& mask else if k = 5 then m ||| 4 else if k = 6 then m ||| 16 else if k = 7 then 0 else m
theorem bits_not (m k : Nat) (hm : m < 64) (hk : k < 64) : bits .andNot .u16 m k = ((m &&& (63 ^^^ k) : Nat) : Int) := by
  have h : ∀ m k : Fin 64, bits .andNot .u16 (m.val : Nat) (k.val : Nat) = ((m.val &&& (63 ^^^ k.val) : Nat) : Int) := by decide +kernel
  exact h ⟨m, hm⟩ ⟨k, hk⟩
theorem bits_and (m k : Nat) (hm : m < 64) (hk : k < 64) : bits .and .u16 m k = ((m &&& k : Nat) : Int) := by
  have h : ∀ m k : Fin 64, bits .and .u16 (m.val : Nat) (k.val : Nat) = ((m.val &&& k.val : Nat) : Int) := by decide +kernel
  exact h ⟨m, hm⟩ ⟨k, hk⟩
theorem bits_or4 (m : Nat) (hm : m < 64) : bits .or .u16 m 4 = ((m ||| 4 : Nat) : Int) := by
  have h : ∀ m : Fin 64, bits .or .u16 (m.val : Nat) 4 = ((m.val ||| 4 : Nat) : Int) := by decide +kernel
  exact h ⟨m, hm⟩
theorem bits_or16 (m : Nat) (hm : m < 64) : bits .or .u16 m 16 = ((m ||| 16 : Nat) : Int) := by
  have h : ∀ m : Fin 64, bits .or .u16 (m.val : Nat) 16 = ((m.val ||| 16 : Nat) : Int) := by decide +kernel
  exact h ⟨m, hm⟩
theorem sayN_lt (m k mask : Nat) (hm : m < 64) (_hk : mask < 64) : sayN m k mask < 64 := by
  unfold sayN
  have h4 : m ||| 4 < 2 ^ 6 := Nat.or_lt_two_pow (by omega) (by omega)
  have h16 : m ||| 16 < 2 ^ 6 := Nat.or_lt_two_pow (by omega) (by omega)
  have ha : m &&& (63 ^^^ mask) ≤ m := Nat.and_le_left
  have hb : m &&& mask ≤ m := Nat.and_le_left
  repeat' split
  all_goals omega
set_option maxRecDepth 100000 in
set_option maxHeartbeats 4000000 in
theorem says_any (m k mask : Nat) (n : Int) (s : ByteArray) (hm : m < 64) (hk : mask < 64) (w : World) :
    Calls Tryz.prog 39 #[.int .u16 m, .agg #[.int .u8 k, .int .u16 mask, .int .i64 n, .string s]] w fun e w' => e = .returned (.int .u16 (sayN m k mask)) ∧ Below w.heap.size w w' := by
  have h1 := bits_not m mask hm hk
  have h2 := bits_and m mask hm hk
  have h3 := bits_or4 m hm
  have h4 := bits_or16 m hm
  have hk' : k = 1 ∨ k = 2 ∨ k = 5 ∨ k = 6 ∨ k = 7 ∨ (k ≠ 1 ∧ k ≠ 2 ∧ k ≠ 5 ∧ k ≠ 6 ∧ k ≠ 7) := by omega
  rcases hk' with rfl | rfl | rfl | rfl | rfl | ⟨g1, g2, g3, g4, g5⟩
  all_goals
    go_enter Tryz.func39, Tryz.ntmps39
    go_wp2
    go_ret
    refine ⟨?_, (Below.refl _ _).alloc (Nat.le_refl _) _⟩
    unfold sayN
    simp [*]
/-- A wrapper. -/
structure W where
  kind : Nat
  mask : Nat
  num : Int
  text : ByteArray
/-- Its cells. -/
def W.vals (x : W) : Array Value := #[.int .u8 x.kind, .int .u16 x.mask, .int .i64 x.num, .string x.text]
def W.ok (x : W) : Bool := wrapOK x.kind x.mask x.num x.text
/-- Wrappers that lie in memory behind a slice's address, all below block B. -/
def WrapsAt (B : Nat) (w : World) (A : Option Addr) (ws : List W) : Prop :=
  ∀ i x, ws[i]? = some x → ∃ b o, A = some ⟨b, o, none⟩ ∧ b < B ∧ w.cell? ⟨b, o + i * 4, none⟩ = some (.int .u8 x.kind) ∧ w.cell? ⟨b, o + i * 4 + 1, none⟩ = some (.int .u16 x.mask) ∧
    w.cell? ⟨b, o + i * 4 + 2, none⟩ = some (.int .i64 x.num) ∧ w.cell? ⟨b, o + i * 4 + 3, none⟩ = some (.string x.text)
theorem WrapsAt.below {B B' : Nat} {w w' : World} {A : Option Addr} {ws : List W} (h : WrapsAt B w A ws) (hb : Below B w w') (hB : B ≤ B') : WrapsAt B' w' A ws := by
  intro i x hx
  obtain ⟨b, o, hA, hlt, h0, h1, h2, h3⟩ := h i x hx
  exact ⟨b, o, hA, by omega, (hb.cell (by exact hlt)).trans h0, (hb.cell (by exact hlt)).trans h1, (hb.cell (by exact hlt)).trans h2, (hb.cell (by exact hlt)).trans h3⟩
/-- The number of what is wrong with wrappers. -/
def checksErr (ws : List W) : Int := if 16 < ws.length then 4 else if ws.all W.ok then 0 else 70
theorem checks_none (cap : Nat) (A : Option Addr) (ws : List W) (h : 16 < ws.length) (w : World) :
    Calls Tryz.prog 40 #[.slice A ws.length cap] w fun e w' => e = .returned (.int .i64 (checksErr ws)) ∧ Below w.heap.size w w' := by
  have he : checksErr ws = 4 := if_pos h
  rw [he]
  clear he
  have h' : ¬ ((ws.length : Int) ≤ 16) := by omega
  go_enter Tryz.func40, Tryz.ntmps40
  go_wp2
  go_ret
  exact ⟨rfl, Below.refl _ _⟩
set_option maxRecDepth 100000 in
set_option maxHeartbeats 4000000 in
theorem checks_any (cap B : Nat) (A : Option Addr) (ws : List W) (w : World) (hB : B ≤ w.heap.size) (hT : Tabs w) (hA : WrapsAt B w A ws) :
    Calls Tryz.prog 40 #[.slice A ws.length cap] w fun e w' => e = .returned (.int .i64 (checksErr ws)) ∧ Below w.heap.size w w' := by
  by_cases h : 16 < ws.length
  · exact checks_none cap A ws h w
  have h' : (ws.length : Int) ≤ 16 := by omega
  have hA' := Lib.hid hA
  have hT' := Lib.hid hT
  clear hA hT
  go_enter Tryz.func40, Tryz.ntmps40
  go_wp2
  go_loopg [11] ws.length (fun gk i wr => ∃ k : Nat, k + gk = ws.length ∧ i = .int .i64 k ∧ (ws.take k).all W.ok = true ∧ Below w.heap.size w wr)
  case atStart => exact ⟨0, by simp, rfl, by simp, Below.refl _ _⟩
  case round =>
    obtain ⟨k, hk, rfl, hall, hb⟩ := hrel
    have HK := Lib.hid hk
    have HL := Lib.hid hall
    have hkl : k ≤ ws.length := by omega
    clear hk hall
    by_cases hlt : k < ws.length
    · have hx : ws[k]? = some ws[k] := List.getElem?_eq_getElem hlt
      obtain ⟨b, o, rfl, hlb, c0, c1, c2, c3⟩ := (hA'.out.below (hb.mono hB) (Nat.le_refl _)) k _ hx
      have HX := Lib.hid hx
      clear hx
      generalize ws[k] = x at *
      have hC := fun W hW => Check_any x.kind x.mask x.num x.text W ((hT'.out.below hb).below hW)
      have HC := Lib.hid hC
      clear hC
      have HB := Lib.hid hb
      have hz := hb.size
      clear hb
      cases hok : x.ok with
      | true =>
        have he : wrapErr x.kind x.mask x.num x.text = 0 := by unfold wrapErr; rw [show wrapOK x.kind x.mask x.num x.text = true from hok]; rfl
        rw [he] at HC
        have HO := Lib.hid hok
        clear he hok
        go_wp2_with (go_at_call 37; refine (HC.out _ ((Below.refl _ _).alloc (Nat.le_refl _) _)).mono ?_; rintro e w1 ⟨rfl, hb1⟩)
        have hk1 := HK.out
        go_roundg (gk - 1)
        case measure => omega
        case rel =>
          refine ⟨k + 1, by omega, by go_num, ?_, (HB.out.alloc hz _).trans (hb1.mono (by simp; omega))⟩
          rw [List.take_add_one, HX.out]
          simp only [Option.toList_some, List.all_append, List.all_cons, List.all_nil, Bool.and_true, HL.out, HO.out]
      | false =>
        have he : wrapErr x.kind x.mask x.num x.text = 70 := by unfold wrapErr; rw [show wrapOK x.kind x.mask x.num x.text = false from hok]; rfl
        rw [he] at HC
        have hce : checksErr ws = 70 := by
          unfold checksErr
          rw [if_neg (by omega), if_neg]
          intro hall
          have := List.all_eq_true.1 hall x (List.mem_of_getElem? HX.out)
          rw [this] at hok
          cases hok
        have HE := Lib.hid hce
        clear he hok hce
        go_wp2_with (go_at_call 37; refine (HC.out _ ((Below.refl _ _).alloc (Nat.le_refl _) _)).mono ?_; rintro e w1 ⟨rfl, hb1⟩)
        go_ret
        rw [HE.out]
        exact ⟨rfl, (HB.out.alloc hz _).trans (hb1.mono (by simp; omega))⟩
    · have hce : checksErr ws = 0 := by
        unfold checksErr
        rw [if_neg (by omega), if_pos]
        have := HL.out
        rwa [List.take_of_length_le (by omega)] at this
      have HE := Lib.hid hce
      have HB := Lib.hid hb
      clear hce hb
      go_wp2
      go_ret
      rw [HE.out]
      exact ⟨rfl, HB.out⟩
end Go.Proofs.YtbhcfopokdcplaaGreatDoor
