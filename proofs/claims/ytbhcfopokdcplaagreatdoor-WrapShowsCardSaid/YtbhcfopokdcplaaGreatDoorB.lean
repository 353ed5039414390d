/-
  What holds, can, Can answer of a pointer to one of the ten kinds, to half, or to one of the 64 wrappers: the abilities of its type. No conditions.
-/
import Derived.Test.YtbhcfopokdcplaaGreatDoorA
namespace Go.Proofs.YtbhcfopokdcplaaGreatDoor
open Go.RowKit
theorem tab_mem {x : Nat × Nat} (h : x ∈ tabT) : hasInfo Tryz.prog x.1 = true ∧ (∀ y ∈ abilT, has Tryz.prog x.1 y.1 = x.2.testBit y.2) ∧ has Tryz.prog x.1 47 = !(kindT.contains x.1) := by
  refine ⟨List.all_eq_true.1 tab_info x h, fun y hy => ?_, ?_⟩
  · have := List.all_eq_true.1 (List.all_eq_true.1 tab_has x h) y hy
    simpa using this
  · have := List.all_eq_true.1 tab_unwrap x h
    simpa using this
theorem assert_tab {t m I b : Nat} {v : Value} {w : World} (x : Nat) (ht : (t, m) ∈ tabT) (hI : (I, b) ∈ abilT) :
    (Instr.typeAssert (.iface t v) x I true).run Tryz.prog w = .ok (.tuple #[if m.testBit b then .iface t v else .nilIface, .bool (m.testBit b)]) w := by
  have h := tab_mem ht
  rw [assert_run x (List.all_eq_true.1 abil_zero _ hI) h.1, h.2.1 _ hI]
theorem assert_unwrap {t m : Nat} {v : Value} {w : World} (x : Nat) (ht : (t, m) ∈ tabT) :
    (Instr.typeAssert (.iface t v) x 47 true).run Tryz.prog w = .ok (.tuple #[if kindT.contains t then .nilIface else .iface t v, .bool (!kindT.contains t)]) w := by
  have h := tab_mem ht
  rw [assert_run x unwrap_zero h.1, h.2.2]
  cases kindT.contains t <;> rfl
theorem tab_lt {t m : Nat} (ht : (t, m) ∈ tabT) : m < 64 := by
  have h : tabT.all (fun x => decide (x.2 < 64)) = true := by decide +kernel
  simpa using List.all_eq_true.1 h _ ht
/-- The sum of the bits. -/
def bitSum (b1 b2 b3 b4 b5 b6 : Bool) : Int := (cond b1 1 0) + (cond b2 2 0) + (cond b3 4 0) + (cond b4 8 0) + (cond b5 16 0) + (cond b6 32 0)
theorem bitSum_eq {m : Nat} (h : m < 64) : bitSum (m.testBit 0) (m.testBit 1) (m.testBit 2) (m.testBit 3) (m.testBit 4) (m.testBit 5) = m := by
  have h' : ∀ m : Fin 64, bitSum (m.val.testBit 0) (m.val.testBit 1) (m.val.testBit 2) (m.val.testBit 3) (m.val.testBit 4) (m.val.testBit 5) = m.val := by decide +kernel
  exact h' ⟨m, h⟩
set_option maxRecDepth 100000 in
set_option maxHeartbeats 4000000 in
theorem holds_bits (v : Value) (w : World) (b1 b2 b3 b4 b5 b6 : Bool) (u1 u2 u3 u4 u5 u6 : Value)
    (h1 : (Instr.typeAssert v 24 94 true).run Tryz.prog w = .ok (.tuple #[u1, .bool b1]) w)
    (h2 : (Instr.typeAssert v 24 97 true).run Tryz.prog w = .ok (.tuple #[u2, .bool b2]) w)
    (h3 : (Instr.typeAssert v 24 100 true).run Tryz.prog w = .ok (.tuple #[u3, .bool b3]) w)
    (h4 : (Instr.typeAssert v 24 103 true).run Tryz.prog w = .ok (.tuple #[u4, .bool b4]) w)
    (h5 : (Instr.typeAssert v 24 106 true).run Tryz.prog w = .ok (.tuple #[u5, .bool b5]) w)
    (h6 : (Instr.typeAssert v 24 89 true).run Tryz.prog w = .ok (.tuple #[u6, .bool b6]) w) :
    Calls Tryz.prog 9 #[v] w fun e w' => w = w' ∧ e = .returned (.int .u16 (bitSum b1 b2 b3 b4 b5 b6)) := by
  go_enter Tryz.func9, Tryz.ntmps9
  go_wp2
  all_goals (go_ret; clear h1 h2 h3 h4 h5 h6; refine ⟨rfl, ?_⟩; simp only [*]; rfl)
set_option maxRecDepth 100000 in
set_option maxHeartbeats 4000000 in
theorem can_bits (v : Value) (w : World) (b1 b2 b3 b4 b5 b6 : Bool) (u1 u2 u3 u4 u5 u6 : Value)
    (h1 : (Instr.typeAssert v 24 94 true).run Tryz.prog w = .ok (.tuple #[u1, .bool b1]) w)
    (h2 : (Instr.typeAssert v 24 97 true).run Tryz.prog w = .ok (.tuple #[u2, .bool b2]) w)
    (h3 : (Instr.typeAssert v 24 100 true).run Tryz.prog w = .ok (.tuple #[u3, .bool b3]) w)
    (h4 : (Instr.typeAssert v 24 103 true).run Tryz.prog w = .ok (.tuple #[u4, .bool b4]) w)
    (h5 : (Instr.typeAssert v 24 106 true).run Tryz.prog w = .ok (.tuple #[u5, .bool b5]) w)
    (h6 : (Instr.typeAssert v 24 88 true).run Tryz.prog w = .ok (.tuple #[u6, .bool b6]) w) :
    Calls Tryz.prog 41 #[v] w fun e w' => w = w' ∧ e = .returned (.int .u16 (bitSum b1 b2 b3 b4 b5 b6)) := by
  go_enter Tryz.func41, Tryz.ntmps41
  go_wp2
  all_goals (go_ret; clear h1 h2 h3 h4 h5 h6; refine ⟨rfl, ?_⟩; simp only [*]; rfl)
/-- law07.holds. -/
theorem holds_tab {t m : Nat} (ht : (t, m) ∈ tabT) (v : Value) (w : World) :
    Calls Tryz.prog 9 #[.iface t v] w fun e w' => w = w' ∧ e = .returned (.int .u16 m) := by
  refine (holds_bits (.iface t v) w _ _ _ _ _ _ _ _ _ _ _ _ (assert_tab (b := 0) 24 ht (by decide)) (assert_tab (b := 1) 24 ht (by decide)) (assert_tab (b := 2) 24 ht (by decide)) (assert_tab (b := 3) 24 ht (by decide)) (assert_tab (b := 4) 24 ht (by decide)) (assert_tab (b := 5) 24 ht (by decide))).mono ?_
  rintro e w' ⟨h1, h2⟩
  exact ⟨h1, by rw [h2, bitSum_eq (tab_lt ht)]⟩
/-- part.can. -/
theorem can_tab {t m : Nat} (ht : (t, m) ∈ tabT) (v : Value) (w : World) :
    Calls Tryz.prog 41 #[.iface t v] w fun e w' => w = w' ∧ e = .returned (.int .u16 m) := by
  refine (can_bits (.iface t v) w _ _ _ _ _ _ _ _ _ _ _ _ (assert_tab (b := 0) 24 ht (by decide)) (assert_tab (b := 1) 24 ht (by decide)) (assert_tab (b := 2) 24 ht (by decide)) (assert_tab (b := 3) 24 ht (by decide)) (assert_tab (b := 4) 24 ht (by decide)) (assert_tab (b := 5) 24 ht (by decide))).mono ?_
  rintro e w' ⟨h1, h2⟩
  exact ⟨h1, by rw [h2, bitSum_eq (tab_lt ht)]⟩
/-- part.Can. -/
theorem Can_tab {t m : Nat} (ht : (t, m) ∈ tabT) (v : Value) (w : World) :
    Calls Tryz.prog 15 #[.iface t v] w fun e w' => w = w' ∧ e = .returned (.int .u16 m) := by
  go_enter Tryz.func15, Tryz.ntmps15
  go_wp2_with (go_at_call 41; refine (can_tab ht v _).mono ?_; rintro e w' ⟨rfl, rfl⟩)
  go_ret
  exact ⟨rfl, rfl⟩
end Go.Proofs.YtbhcfopokdcplaaGreatDoor
