/-
  Law 07's alive answers true. Condition: utf8's two tables lie as the library lays them.
-/
import Derived.Test.YtbhcfopokdcplaaGreatDoorR
namespace Go.Proofs.YtbhcfopokdcplaaGreatDoor
open Go.RowKit
theorem wraps1 (x : W) (w : World) (t : TypeId) : WrapsAt (w.heap.size + 1) (w.alloc (.cells #[.int .u8 x.kind, .int .u16 x.mask, .int .i64 x.num, .string x.text] t)) (some ⟨w.heap.size, 0, none⟩) [x] := by
  intro i y hy
  rcases i with _ | i
  · simp at hy
    subst hy
    exact ⟨w.heap.size, 0, rfl, by omega, by simp, by simp, by simp, by simp⟩
  · simp at hy
theorem wraps2 (x z : W) (w : World) (t : TypeId) : WrapsAt (w.heap.size + 1) (w.alloc (.cells #[.int .u8 x.kind, .int .u16 x.mask, .int .i64 x.num, .string x.text, .int .u8 z.kind, .int .u16 z.mask, .int .i64 z.num, .string z.text] t)) (some ⟨w.heap.size, 0, none⟩) [x, z] := by
  intro i y hy
  rcases i with _ | _ | i
  · simp at hy
    subst hy
    exact ⟨w.heap.size, 0, rfl, by omega, by simp, by simp, by simp, by simp⟩
  · simp at hy
    subst hy
    exact ⟨w.heap.size, 0, rfl, by omega, by simp, by simp, by simp, by simp⟩
  · simp at hy
theorem hide_lit (w : World) : Calls Tryz.prog 32 #[] w fun e w' => e = .returned (.agg #[.int .u8 1, .int .u16 4, .int .i64 0, .string ⟨#[]⟩]) ∧ Below w.heap.size w w' := hide_any w
theorem focus_lit (w : World) : Calls Tryz.prog 35 #[] w fun e w' => e = .returned (.agg #[.int .u8 5, .int .u16 0, .int .i64 7, .string ⟨#[]⟩]) ∧ Below w.heap.size w w' := focus_any w
theorem drop_lit (w : World) : Calls Tryz.prog 36 #[] w fun e w' => e = .returned (.agg #[.int .u8 6, .int .u16 0, .int .i64 0, .string ⟨#[102, 105, 108, 101]⟩]) ∧ Below w.heap.size w w' := drop_any w
theorem below_new {w a : World} {o : Obj} (h : Below (w.alloc o).heap.size (w.alloc o) a) : Below w.heap.size w a := ((Below.refl _ w).alloc (Nat.le_refl _) o).trans (h.mono (by simp))
theorem can1 : canN [hideW] = 3 := by decide +kernel
theorem can1_at (w : World) (hT : Tabs w) : Calls Tryz.prog 34 #[.slice (some ⟨w.heap.size, 0, none⟩) 1 1] (w.alloc (.cells #[.int .u8 1, .int .u16 4, .int .i64 0, .string ⟨#[]⟩] 40)) fun e w' => e = .returned (.int .u16 3) ∧ Below w.heap.size w w' := by
  refine (can_any 1 (w.heap.size + 1) (some ⟨w.heap.size, 0, none⟩) [hideW] (w.alloc (.cells #[.int .u8 1, .int .u16 4, .int .i64 0, .string ⟨#[]⟩] 40)) (by simp) (hT.below ((Below.refl _ w).alloc (Nat.le_refl _) _)) (wraps1 hideW w 40) (by decide)).mono ?_
  rintro e w' ⟨he, hb⟩
  rw [can1] at he
  exact ⟨he, below_new hb⟩
theorem can2 : canN [hideW, focusW] = 7 := by decide +kernel
theorem can2_at (w : World) (hT : Tabs w) : Calls Tryz.prog 34 #[.slice (some ⟨w.heap.size, 0, none⟩) 2 2] (w.alloc (.cells #[.int .u8 1, .int .u16 4, .int .i64 0, .string ⟨#[]⟩, .int .u8 5, .int .u16 0, .int .i64 7, .string ⟨#[]⟩] 40)) fun e w' => e = .returned (.int .u16 7) ∧ Below w.heap.size w w' := by
  refine (can_any 2 (w.heap.size + 1) (some ⟨w.heap.size, 0, none⟩) [hideW, focusW] (w.alloc (.cells #[.int .u8 1, .int .u16 4, .int .i64 0, .string ⟨#[]⟩, .int .u8 5, .int .u16 0, .int .i64 7, .string ⟨#[]⟩] 40)) (by simp) (hT.below ((Below.refl _ w).alloc (Nat.le_refl _) _)) (wraps2 hideW focusW w 40) (by decide)).mono ?_
  rintro e w' ⟨he, hb⟩
  rw [can2] at he
  exact ⟨he, below_new hb⟩
theorem can3 : canN [focusW, hideW] = 3 := by decide +kernel
theorem can3_at (w : World) (hT : Tabs w) : Calls Tryz.prog 34 #[.slice (some ⟨w.heap.size, 0, none⟩) 2 2] (w.alloc (.cells #[.int .u8 5, .int .u16 0, .int .i64 7, .string ⟨#[]⟩, .int .u8 1, .int .u16 4, .int .i64 0, .string ⟨#[]⟩] 40)) fun e w' => e = .returned (.int .u16 3) ∧ Below w.heap.size w w' := by
  refine (can_any 2 (w.heap.size + 1) (some ⟨w.heap.size, 0, none⟩) [focusW, hideW] (w.alloc (.cells #[.int .u8 5, .int .u16 0, .int .i64 7, .string ⟨#[]⟩, .int .u8 1, .int .u16 4, .int .i64 0, .string ⟨#[]⟩] 40)) (by simp) (hT.below ((Below.refl _ w).alloc (Nat.le_refl _) _)) (wraps2 focusW hideW w 40) (by decide)).mono ?_
  rintro e w' ⟨he, hb⟩
  rw [can3] at he
  exact ⟨he, below_new hb⟩
theorem can4 : canN [dropW] = 23 := by decide +kernel
theorem can4_at (w : World) (hT : Tabs w) : Calls Tryz.prog 34 #[.slice (some ⟨w.heap.size, 0, none⟩) 1 1] (w.alloc (.cells #[.int .u8 6, .int .u16 0, .int .i64 0, .string ⟨#[102, 105, 108, 101]⟩] 40)) fun e w' => e = .returned (.int .u16 23) ∧ Below w.heap.size w w' := by
  refine (can_any 1 (w.heap.size + 1) (some ⟨w.heap.size, 0, none⟩) [dropW] (w.alloc (.cells #[.int .u8 6, .int .u16 0, .int .i64 0, .string ⟨#[102, 105, 108, 101]⟩] 40)) (by simp) (hT.below ((Below.refl _ w).alloc (Nat.le_refl _) _)) (wraps1 dropW w 40) (by decide)).mono ?_
  rintro e w' ⟨he, hb⟩
  rw [can4] at he
  exact ⟨he, below_new hb⟩
theorem says1 : saysN 63 [hideW] = 59 ∧ checksErr [hideW] = 0 := by decide +kernel
theorem says1_at (w : World) (hT : Tabs w) : Calls Tryz.prog 13 #[.int .u16 63, .slice (some ⟨w.heap.size, 0, none⟩) 1 1] (w.alloc (.cells #[.int .u8 1, .int .u16 4, .int .i64 0, .string ⟨#[]⟩] 40)) fun e w' => e = .returned (.tuple #[.int .u16 59, .int .i64 0]) ∧ Below w.heap.size w w' := by
  refine (Says_any 63 1 (w.heap.size + 1) (by decide) (some ⟨w.heap.size, 0, none⟩) [hideW] (w.alloc (.cells #[.int .u8 1, .int .u16 4, .int .i64 0, .string ⟨#[]⟩] 40)) (by simp) (hT.below ((Below.refl _ w).alloc (Nat.le_refl _) _)) (wraps1 hideW w 40) (by decide)).mono ?_
  rintro e w' ⟨he, hb⟩
  rw [says1.1, says1.2] at he
  exact ⟨he, below_new hb⟩
set_option maxRecDepth 100000 in
set_option maxHeartbeats 400000 in
theorem alive_any (w : World) (hT : Tabs w) : Calls Tryz.prog 8 #[] w fun e w' => e = .returned (.bool true) ∧ Below w.heap.size w w' := by
  have HT := Lib.hid (fun (W' : World) (h : Below w.heap.size w W') => hT.below h)
  clear hT
  have hb : Below w.heap.size w w := Below.refl _ _
  have m1 : Hid (1 = 1) := Lib.hid rfl
  have m2 : Hid (2 = 2) := Lib.hid rfl
  have m3 : Hid (3 = 3) := Lib.hid rfl
  have m4 : Hid (4 = 4) := Lib.hid rfl
  go_enter Tryz.func8, Tryz.ntmps8
  go_wp2_with (first
    | (go_at_call 32; refine (hide_lit _).mono ?_; rintro e w1 ⟨rfl, h1⟩; replace hb := below_step hb h1; clear h1)
    | (go_at_call 35; refine (focus_lit _).mono ?_; rintro e w1 ⟨rfl, h1⟩; replace hb := below_step hb h1; clear h1)
    | (go_at_call 36; refine (drop_lit _).mono ?_; rintro e w1 ⟨rfl, h1⟩; replace hb := below_step hb h1; clear h1)
    | (go_at_call 13; refine (says1_at _ (HT.out _ hb)).mono ?_; rintro e w1 ⟨rfl, h1⟩; replace hb := below_step hb h1; clear h1)
    | (go_at_call 34; have _m := m1; refine (can1_at _ (HT.out _ hb)).mono ?_; rintro e w1 ⟨rfl, h1⟩; replace hb := below_step hb h1; clear h1 m1 _m)
    | (go_at_call 34; have _m := m2; refine (can2_at _ (HT.out _ hb)).mono ?_; rintro e w1 ⟨rfl, h1⟩; replace hb := below_step hb h1; clear h1 m2 _m)
    | (go_at_call 34; have _m := m3; refine (can3_at _ (HT.out _ hb)).mono ?_; rintro e w1 ⟨rfl, h1⟩; replace hb := below_step hb h1; clear h1 m3 _m)
    | (go_at_call 34; have _m := m4; refine (can4_at _ (HT.out _ hb)).mono ?_; rintro e w1 ⟨rfl, h1⟩; replace hb := below_step hb h1; clear h1 m4 _m)
    | (go_at_call 33; refine (button_any _ (HT.out _ hb)).mono ?_; rintro e w1 ⟨v, rfl, hp, h1⟩; obtain ⟨y, rfl, _⟩ := hp.iface; clear hp; replace hb := below_step hb h1; clear h1))
  go_ret
  exact ⟨rfl, hb⟩
end Go.Proofs.YtbhcfopokdcplaaGreatDoor
