/-
  Kind and Unwrap called on a part's interface value; part.None. No conditions.
-/
import Derived.Test.YtbhcfopokdcplaaGreatDoorD
namespace Go.Proofs.YtbhcfopokdcplaaGreatDoor
open Go.RowKit
theorem enter130 (args : Array Value) (w : World) : (callFunc 130 args).run Tryz.prog w = .ok (.enter 130 args) w := calls_enter Tryz.func130 (by kernel_rfl) (by kernel_rfl) args w
theorem enter137 (args : Array Value) (w : World) : (callFunc 137 args).run Tryz.prog w = .ok (.enter 137 args) w := calls_enter Tryz.func137 (by kernel_rfl) (by kernel_rfl) args w
theorem enter143 (args : Array Value) (w : World) : (callFunc 143 args).run Tryz.prog w = .ok (.enter 143 args) w := calls_enter Tryz.func143 (by kernel_rfl) (by kernel_rfl) args w
theorem enter150 (args : Array Value) (w : World) : (callFunc 150 args).run Tryz.prog w = .ok (.enter 150 args) w := calls_enter Tryz.func150 (by kernel_rfl) (by kernel_rfl) args w
theorem enter155 (args : Array Value) (w : World) : (callFunc 155 args).run Tryz.prog w = .ok (.enter 155 args) w := calls_enter Tryz.func155 (by kernel_rfl) (by kernel_rfl) args w
theorem enter160 (args : Array Value) (w : World) : (callFunc 160 args).run Tryz.prog w = .ok (.enter 160 args) w := calls_enter Tryz.func160 (by kernel_rfl) (by kernel_rfl) args w
theorem enter168 (args : Array Value) (w : World) : (callFunc 168 args).run Tryz.prog w = .ok (.enter 168 args) w := calls_enter Tryz.func168 (by kernel_rfl) (by kernel_rfl) args w
theorem enter173 (args : Array Value) (w : World) : (callFunc 173 args).run Tryz.prog w = .ok (.enter 173 args) w := calls_enter Tryz.func173 (by kernel_rfl) (by kernel_rfl) args w
theorem enter177 (args : Array Value) (w : World) : (callFunc 177 args).run Tryz.prog w = .ok (.enter 177 args) w := calls_enter Tryz.func177 (by kernel_rfl) (by kernel_rfl) args w
theorem enter181 (args : Array Value) (w : World) : (callFunc 181 args).run Tryz.prog w = .ok (.enter 181 args) w := calls_enter Tryz.func181 (by kernel_rfl) (by kernel_rfl) args w
theorem enter124 (args : Array Value) (w : World) : (callFunc 124 args).run Tryz.prog w = .ok (.enter 124 args) w := calls_enter Tryz.func124 (by kernel_rfl) (by kernel_rfl) args w
theorem enter126 (args : Array Value) (w : World) : (callFunc 126 args).run Tryz.prog w = .ok (.enter 126 args) w := calls_enter Tryz.func126 (by kernel_rfl) (by kernel_rfl) args w
theorem enter127 (args : Array Value) (w : World) : (callFunc 127 args).run Tryz.prog w = .ok (.enter 127 args) w := calls_enter Tryz.func127 (by kernel_rfl) (by kernel_rfl) args w
theorem enter129 (args : Array Value) (w : World) : (callFunc 129 args).run Tryz.prog w = .ok (.enter 129 args) w := calls_enter Tryz.func129 (by kernel_rfl) (by kernel_rfl) args w
/-- A method of an interface value: which function, on what, and what that answers. -/
def MethodCall (name : String) (w : World) (v : Value) (R : Ending → World → Prop) : Prop :=
  ∃ t x f r, v = .iface t x ∧ (∀ n, (method (n + 1) t x name).run Tryz.prog w = .ok (f, r) w) ∧ (∀ (args : Array Value) (W : World), (callFunc f args).run Tryz.prog W = .ok (.enter f args) W) ∧ Calls Tryz.prog f #[r] w R
set_option maxRecDepth 100000 in
theorem half_Kind (w : World) : Calls Tryz.prog 124 #[.pointer none] w fun e w' => e = .returned (.int .u8 0) ∧ Below w.heap.size w w' := by
  go_enter Tryz.func124, Tryz.ntmps124
  go_wp2
  go_ret
  exact ⟨rfl, Below.refl _ _⟩
set_option maxRecDepth 100000 in
theorem half_Unwrap (w : World) : Calls Tryz.prog 126 #[.pointer none] w fun e w' => e = .returned .nilIface ∧ Below w.heap.size w w' := by
  go_enter Tryz.func126, Tryz.ntmps126
  go_wp2
  go_ret
  exact ⟨rfl, Below.refl _ _⟩
set_option maxRecDepth 100000 in
theorem core_Unwrap (c : Nat) (u : Value) (w : World) (hc : w.cell? ⟨c, 0, none⟩ = some u) : Calls Tryz.prog 129 #[.pointer (some ⟨c, 0, none⟩)] w fun e w' => e = .returned u ∧ Below w.heap.size w w' := by
  go_enter Tryz.func129, Tryz.ntmps129
  go_wp2
  go_ret
  exact ⟨rfl, Below.refl _ _⟩
set_option maxRecDepth 100000 in
theorem core_Kind (c : Nat) (n : Nat) (hn : n < 256) (u : Value) (w : World) (hc : w.cell? ⟨c, 0, none⟩ = some u)
    (hu : MethodCall "Kind" w u fun e w' => e = .returned (.int .u8 n) ∧ Below w.heap.size w w') :
    Calls Tryz.prog 127 #[.pointer (some ⟨c, 0, none⟩)] w fun e w' => e = .returned (.int .u8 (if 0 < n then n else 9 : Nat)) ∧ Below w.heap.size w w' := by
  obtain ⟨t, x, f, r, rfl, hm, hf, hR⟩ := hu
  have HR := Lib.hid hR
  clear hR
  have hm' := hm 535
  clear hm
  by_cases h0 : 0 < n
  · rw [if_pos h0]
    go_enter Tryz.func127, Tryz.ntmps127
    go_wp2_with fail
    refine HR.out.mono ?_
    rintro e w' ⟨rfl, hb⟩
    go_wp2
    go_ret
    exact ⟨rfl, hb⟩
  · obtain rfl : n = 0 := by omega
    rw [if_neg h0]
    go_enter Tryz.func127, Tryz.ntmps127
    go_wp2_with fail
    refine HR.out.mono ?_
    rintro e w' ⟨rfl, hb⟩
    go_wp2
    go_ret
    exact ⟨rfl, hb⟩
theorem num_lt {B : Nat} {w : World} : ∀ {p : PD} {v : Value}, IsPart B w v p → p.num ≤ 10
  | .kind k, _, h => h.2.1
  | .half, _, _ => Nat.zero_le _
  | .wrap m p, _, h => by
    obtain ⟨_, _, _, u, _, _, _, _, _, hu⟩ := h
    have := num_lt hu
    unfold PD.num
    split <;> omega
theorem kind_call {B : Nat} {w : World} (hB : B ≤ w.heap.size) : ∀ {p : PD} {v : Value}, IsPart B w v p → MethodCall "Kind" w v fun e w' => e = .returned (.int .u8 p.num) ∧ Below w.heap.size w w'
  | .kind k, v, h => by
    obtain ⟨h1, h2, b, s, hlt, rfl, hc0, hc1⟩ := h
    have hk : k = 1 ∨ k = 2 ∨ k = 3 ∨ k = 4 ∨ k = 5 ∨ k = 6 ∨ k = 7 ∨ k = 8 ∨ k = 9 ∨ k = 10 := by omega
    have ho := List.all_eq_true.1 tab_kind_own
    rcases hk with rfl | rfl | rfl | rfl | rfl | rfl | rfl | rfl | rfl | rfl
    · exact ⟨138, _, 130, _, rfl, fun n => method_own (ho (138, 130) (by decide)) n, enter130, label_Kind b _ s w hc0 hc1 (by omega)⟩
    · exact ⟨141, _, 137, _, rfl, fun n => method_own (ho (141, 137) (by decide)) n, enter137, button_Kind b _ s w hc0 hc1 (by omega)⟩
    · exact ⟨143, _, 143, _, rfl, fun n => method_own (ho (143, 143) (by decide)) n, enter143, field_Kind b _ s w hc0 hc1 (by omega)⟩
    · exact ⟨145, _, 150, _, rfl, fun n => method_own (ho (145, 150) (by decide)) n, enter150, box_Kind b _ s w hc0 hc1 (by omega)⟩
    · exact ⟨147, _, 155, _, rfl, fun n => method_own (ho (147, 155) (by decide)) n, enter155, grid_Kind b _ s w hc0 hc1 (by omega)⟩
    · exact ⟨149, _, 160, _, rfl, fun n => method_own (ho (149, 160) (by decide)) n, enter160, scroll_Kind b _ s w hc0 hc1 (by omega)⟩
    · exact ⟨151, _, 168, _, rfl, fun n => method_own (ho (151, 168) (by decide)) n, enter168, spinner_Kind b _ s w hc0 hc1 (by omega)⟩
    · exact ⟨153, _, 173, _, rfl, fun n => method_own (ho (153, 173) (by decide)) n, enter173, canvas_Kind b _ s w hc0 hc1 (by omega)⟩
    · exact ⟨155, _, 177, _, rfl, fun n => method_own (ho (155, 177) (by decide)) n, enter177, gap_Kind b _ s w hc0 hc1 (by omega)⟩
    · exact ⟨157, _, 181, _, rfl, fun n => method_own (ho (157, 181) (by decide)) n, enter181, stack_Kind b _ s w hc0 hc1 (by omega)⟩
  | .half, v, h => by
    obtain rfl : v = .iface 109 (.pointer none) := h
    have ho := half_own
    rw [Bool.and_eq_true] at ho
    exact ⟨109, _, 124, _, rfl, fun n => method_own ho.1 n, enter124, half_Kind w⟩
  | .wrap m p, v, h => by
    obtain ⟨hm, b, c, u, hlb, hlc, rfl, hc0, hc1, hu⟩ := h
    have ho := List.all_eq_true.1 tab_with_kind (withT.getD m 0) (by
      have hh : ∀ k : Fin 64, withT.getD k.val 0 ∈ withT := by decide +kernel
      exact hh ⟨m, hm⟩)
    rw [Bool.and_eq_true] at ho
    exact ⟨_, _, 127, _, rfl, fun n => method_promoted ho.1 hc0 n, enter127, core_Kind c p.num (by have := num_lt hu; omega) u w hc1 (kind_call hB hu)⟩
set_option maxRecDepth 100000 in
/-- part.None of a part. -/
theorem None_part {B : Nat} {w : World} (hB : B ≤ w.heap.size) {p : PD} {v : Value} (h : IsPart B w v p) :
    Calls Tryz.prog 12 #[v] w fun e w' => e = .returned (.bool (p.num == 0)) ∧ Below w.heap.size w w' := by
  have hn := num_lt h
  obtain ⟨t, x, f, r, rfl, hm, hf, hR⟩ := kind_call hB h
  clear h
  have HR := Lib.hid hR
  clear hR
  have hm' := hm 535
  clear hm
  generalize p.num = n at *
  go_enter Tryz.func12, Tryz.ntmps12
  go_wp2_with fail
  refine HR.out.mono ?_
  rintro e w' ⟨rfl, hb⟩
  go_wp2
  go_ret
  exact ⟨congrArg (fun b => Ending.returned (Value.bool b)) (by rw [Bool.eq_iff_iff]; simp), hb⟩
end Go.Proofs.YtbhcfopokdcplaaGreatDoor
