/-
  wrap.Inner of a part: how many wrappers there are about it. No conditions.
-/
import Derived.Test.YtbhcfopokdcplaaGreatDoorE
import Derived.Deep.LoopGhost
namespace Go.Proofs.YtbhcfopokdcplaaGreatDoor
open Go.RowKit
theorem kind_not_unwrap (k : Nat) (h1 : 1 ≤ k) (h2 : k ≤ 10) : kindT.contains (kindT.getD (k - 1) 0) = true := by
  have hh : ∀ k : Fin 10, kindT.contains (kindT.getD k.val 0) = true := by decide +kernel
  exact hh ⟨k - 1, by omega⟩
theorem with_unwrap (m : Nat) (h : m < 64) : kindT.contains (withT.getD m 0) = false := by
  have hh : ∀ k : Fin 64, kindT.contains (withT.getD k.val 0) = false := by decide +kernel
  exact hh ⟨m, h⟩
/-- What Inner answers: some part, and n. -/
def InnerPost (n : Nat) (w : World) (e : Ending) (w' : World) : Prop := ∃ u, e = .returned (.tuple #[u, .int .i64 n]) ∧ Below w.heap.size w w'
set_option maxRecDepth 100000 in
set_option maxHeartbeats 1000000 in
theorem Inner_part {B : Nat} {w : World} (hB : B ≤ w.heap.size) {p : PD} {v : Value} (h : IsPart B w v p) (hs : p.steps ≤ 1000000) :
    Calls Tryz.prog 14 #[v] w (InnerPost p.steps w) := by
  go_enter Tryz.func14, Tryz.ntmps14
  go_wp2
  go_loopg [0, 4] p.steps (fun k v n wr => ∃ q, q.steps = k ∧ k ≤ p.steps ∧ IsPart B wr v q ∧ n = .int .i64 ((p.steps : Int) - k) ∧ Below w.heap.size w wr)
  case atStart => exact ⟨p, rfl, Nat.le_refl _, h, by simp, Below.refl _ _⟩
  case round =>
    obtain ⟨q, hq, hk, hp, rfl, hb⟩ := hrel
    have hz := hb.size
    cases q with
    | kind k =>
      obtain ⟨h1, h2, b, s, hlt, rfl, hc0, hc1⟩ := hp
      have ha := assert_unwrap (v := .pointer (some ⟨b, 0, none⟩)) (w := wr) 24 (IsPart.iface (p := .kind k) (B := B) (w := wr) ⟨h1, h2, b, s, hlt, rfl, hc0, hc1⟩).choose_spec.2
      have hkk : (PD.kind k).type = kindT.getD (k - 1) 0 := rfl
      rw [hkk, kind_not_unwrap k h1 h2] at ha
      simp only [PD.steps] at hq
      have HB := Lib.hid hb
      clear hb hkk hc0 hc1
      generalize kindT.getD (k - 1) 0 = t at *
      subst hq
      go_wp2
      go_ret2
      exact ⟨_, rfl, HB.out⟩
    | half =>
      obtain rfl := hp
      have ha := assert_unwrap (v := .pointer none) (w := wr) 24 (IsPart.iface (p := .half) (B := B) (w := wr) rfl).choose_spec.2
      have hkk : (PD.half).type = 109 := rfl
      have hk2 : kindT.contains 109 = false := by decide +kernel
      rw [hkk, hk2] at ha
      simp only [PD.steps] at hq
      have ho := half_own
      rw [Bool.and_eq_true] at ho
      have hm := method_own (a := none) (w := wr) (of_decide_eq_true ho.2) 535
      have hf := enter126
      have HB := Lib.hid hb
      clear hb hkk hk2 ho
      subst hq
      go_wp2_with (go_at_call 126; refine (half_Unwrap _).mono ?_; rintro e w' ⟨rfl, hb'⟩)
      go_ret2
      exact ⟨_, rfl, HB.out.trans (hb'.mono hz)⟩
    | wrap m q =>
      obtain ⟨hm, b, c, u, hlb, hlc, rfl, hc0, hc1, hu⟩ := hp
      have hmem : (withT.getD m 0, m) ∈ tabT := by
        have hh : ∀ k : Fin 64, (withT.getD k.val 0, k.val) ∈ tabT := by decide +kernel
        exact hh ⟨m, hm⟩
      have ha := assert_unwrap (v := .pointer (some ⟨b, 0, none⟩)) (w := wr) 24 hmem
      rw [with_unwrap m hm] at ha
      have ho := List.all_eq_true.1 tab_with_kind (withT.getD m 0) (by
        have hh : ∀ k : Fin 64, withT.getD k.val 0 ∈ withT := by decide +kernel
        exact hh ⟨m, hm⟩)
      rw [Bool.and_eq_true] at ho
      have hm1 := method_promoted ho.2 hc0 535
      have hf := enter129
      have HB := Lib.hid hb
      have HU := Lib.hid hu
      obtain ⟨x, rfl, _⟩ := hu.iface
      simp only [PD.steps] at hq
      clear hb ho hmem hu
      generalize withT.getD m 0 = t at *
      generalize q.type = t' at *
      have hk' : q.steps ≤ p.steps := by omega
      have hk2 : (p.steps : Int) - gk = (p.steps : Int) - q.steps - 1 := by omega
      have hk3 : gk = q.steps + 1 := by omega
      rw [hk2]
      have HK := Lib.hid hk3
      clear hk2 hk3 hq
      go_wp2_with (go_at_call 129; refine (core_Unwrap c _ _ hc1).mono ?_; rintro e w' ⟨rfl, hb'⟩)
      go_roundg q.steps
      case measure => have := HK.out; omega
      case rel => exact ⟨q, rfl, hk', HU.out.below (hb'.mono (by have := HB.out.size; omega)) (Nat.le_refl _), by simp, HB.out.trans (hb'.mono hz)⟩
end Go.Proofs.YtbhcfopokdcplaaGreatDoor
