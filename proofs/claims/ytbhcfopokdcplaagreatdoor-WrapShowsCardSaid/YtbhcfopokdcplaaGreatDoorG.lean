/-
  wrap.about: a new wrapper with just these abilities about a core. No conditions.
-/
import Derived.Test.YtbhcfopokdcplaaGreatDoorF
namespace Go.Proofs.YtbhcfopokdcplaaGreatDoor
open Go.RowKit
/-- What about answers: a pointer to a new block whose first cell is the core. -/
def WithPost (m : Nat) (c : Value) (w : World) (e : Ending) (w' : World) : Prop :=
  ∃ cs T, e = .returned (.iface (withT.getD m 0) (.pointer (some ⟨w.heap.size, 0, none⟩))) ∧ w' = w.alloc (.cells cs T) ∧ cs[0]? = some c
theorem with_leaf (m : Nat) (j : Int) (hx : ((m : Int) == j) = true) {c : Value} {w : World} {e : Ending} {w' : World} (h : WithPost j.toNat c w e w') : WithPost m c w e w' := by
  have h2 := congrArg Int.toNat (beq_iff_eq.1 hx)
  rw [Int.toNat_natCast] at h2
  rw [h2]
  exact h
set_option maxRecDepth 100000 in
set_option maxHeartbeats 20000000 in
theorem apart_any (m : Nat) (hm : m < 32) (c : Nat) (w : World) :
    Calls Tryz.prog 66 #[.pointer (some ⟨c, 0, none⟩), .int .u16 m] w (WithPost m (.pointer (some ⟨c, 0, none⟩)) w) := by
  go_enter Tryz.func66, Tryz.ntmps66
  go_wp2
  all_goals
    go_ret
    refine with_leaf m _ (by assumption) ?_
    exact ⟨_, _, rfl, rfl, rfl⟩
set_option maxRecDepth 100000 in
set_option maxHeartbeats 20000000 in
theorem holding_any (m : Nat) (hm : m < 64) (hm2 : 32 ≤ m) (c : Nat) (w : World) :
    Calls Tryz.prog 67 #[.pointer (some ⟨c, 0, none⟩), .int .u16 m] w (WithPost m (.pointer (some ⟨c, 0, none⟩)) w) := by
  go_enter Tryz.func67, Tryz.ntmps67
  go_wp2
  all_goals
    go_ret
    refine with_leaf m _ (by assumption) ?_
    exact ⟨_, _, rfl, rfl, rfl⟩
set_option maxRecDepth 100000 in
theorem about_any (m : Nat) (hm : m < 64) (c : Nat) (w : World) :
    Calls Tryz.prog 38 #[.pointer (some ⟨c, 0, none⟩), .int .u16 m] w (WithPost m (.pointer (some ⟨c, 0, none⟩)) w) := by
  by_cases h : m < 32
  · go_enter Tryz.func38, Tryz.ntmps38
    go_wp2_with fail
    refine (apart_any m h c _).mono ?_
    rintro e w' ⟨cs, T, rfl, rfl, hc⟩
    go_wp2
    go_ret
    exact ⟨cs, T, rfl, rfl, hc⟩
  · go_enter Tryz.func38, Tryz.ntmps38
    go_wp2_with fail
    refine (holding_any m hm (by omega) c _).mono ?_
    rintro e w' ⟨cs, T, rfl, rfl, hc⟩
    go_wp2
    go_ret
    exact ⟨cs, T, rfl, rfl, hc⟩
end Go.Proofs.YtbhcfopokdcplaaGreatDoor
