/-
  The small functions of law 07: the wrappers hide, focus and drop, the button, what a wrapped button can, a small wrapper, whether the subject is alive. Condition: utf8's two tables lie as the library lays them.
-/
import Derived.Test.YtbhcfopokdcplaaGreatDoorQ
namespace Go.Proofs.YtbhcfopokdcplaaGreatDoor
open Go.RowKit
theorem info40 : (Tryz.prog.info? 40).map (·.size) = some 4 := by kernel_rfl
def hideW : W := W.mk 1 4 0 ⟨#[]⟩
set_option maxRecDepth 100000 in
set_option maxHeartbeats 4000000 in
theorem hide_any (w : World) : Calls Tryz.prog 32 #[] w fun e w' => e = .returned (.agg hideW.vals) ∧ Below w.heap.size w w' := by
  go_enter Tryz.func32, Tryz.ntmps32
  go_wp2
  exact bodyPost_ret (results_cell_row rfl _ _ w.heap.size _ _ _ _ rfl (heap_alloc_new _ _) rfl rfl info40) rfl ⟨rfl, (Below.refl _ _).alloc (Nat.le_refl _) _⟩
def focusW : W := W.mk 5 0 7 ⟨#[]⟩
set_option maxRecDepth 100000 in
set_option maxHeartbeats 4000000 in
theorem focus_any (w : World) : Calls Tryz.prog 35 #[] w fun e w' => e = .returned (.agg focusW.vals) ∧ Below w.heap.size w w' := by
  go_enter Tryz.func35, Tryz.ntmps35
  go_wp2
  exact bodyPost_ret (results_cell_row rfl _ _ w.heap.size _ _ _ _ rfl (heap_alloc_new _ _) rfl rfl info40) rfl ⟨rfl, (Below.refl _ _).alloc (Nat.le_refl _) _⟩
def dropW : W := W.mk 6 0 0 ⟨#[102, 105, 108, 101]⟩
set_option maxRecDepth 100000 in
set_option maxHeartbeats 4000000 in
theorem drop_any (w : World) : Calls Tryz.prog 36 #[] w fun e w' => e = .returned (.agg dropW.vals) ∧ Below w.heap.size w w' := by
  go_enter Tryz.func36, Tryz.ntmps36
  go_wp2
  exact bodyPost_ret (results_cell_row rfl _ _ w.heap.size _ _ _ _ rfl (heap_alloc_new _ _) rfl rfl info40) rfl ⟨rfl, (Below.refl _ _).alloc (Nat.le_refl _) _⟩
def nButton : N := ⟨2, ⟨#[98]⟩, ⟨#[]⟩, ⟨#[111, 107]⟩, 0, 0, 0, 0, 0, 0, false, 0, 0, 0, 0, 0, false⟩
theorem button_fine : nButton.fine := by
  refine ⟨⟨by decide, by decide⟩, ⟨?_, ?_, ?_⟩, ⟨⟨by decide, by decide⟩, ⟨by decide, by decide⟩, ⟨by decide, by decide⟩, ⟨by decide, by decide⟩, ⟨by decide, by decide⟩, ⟨by decide, by decide⟩⟩, ⟨.inl rfl, .inl rfl⟩, ⟨by decide, by decide⟩, ⟨⟨by decide, by decide⟩, ⟨by decide, by decide⟩⟩, ⟨⟨by decide, by decide⟩, ⟨by decide, by decide⟩⟩⟩
  all_goals decide +kernel
set_option maxRecDepth 100000 in
set_option maxHeartbeats 4000000 in
theorem button_any (w : World) (hT : Tabs w) : Calls Tryz.prog 33 #[] w fun e w' => ∃ v, e = .returned v ∧ IsPart w'.heap.size w' v (.kind 2) ∧ Below w.heap.size w w' := by
  have HM := Lib.hid (fun a b => Make_fine nButton button_fine a b w hT)
  clear hT
  go_enter Tryz.func33, Tryz.ntmps33
  go_wp2_with (go_at_call 7; refine (HM.out _ _).mono ?_; rintro e w' ⟨v, rfl, hp, hb⟩)
  go_ret
  exact ⟨_, rfl, hp, hb⟩
/-- What a wrapped button can. -/
def canN (ws : List W) : Nat := if allE (.kind 2) ws = 0 then (allP (.kind 2) ws).can else 99
set_option maxRecDepth 100000 in
set_option maxHeartbeats 4000000 in
theorem can_any (cap B : Nat) (A : Option Addr) (ws : List W) (w : World) (hB : B ≤ w.heap.size) (hT : Tabs w) (hA : WrapsAt B w A ws) (hw : ∀ x ∈ ws, x.mask < 65536) :
    Calls Tryz.prog 34 #[.slice A ws.length cap] w fun e w' => e = .returned (.int .u16 (canN ws)) ∧ Below w.heap.size w w' := by
  have HBt := Lib.hid (button_any w hT)
  have HA := Lib.hid (fun (W' : World) (v : Value) (h : Below w.heap.size w W') (hp : IsPart W'.heap.size W' v (.kind 2)) => All_any cap W'.heap.size A ws (Nat.le_refl _) hp (by decide) (hT.below h) (hA.below (h.mono hB) (Nat.le_trans hB h.size)) hw)
  clear hT hA hw hB
  by_cases h0 : allE (.kind 2) ws = 0
  · have hc : canN ws = (allP (.kind 2) ws).can := if_pos h0
    rw [hc]
    have H0 := Lib.hid h0
    clear hc
    go_enter Tryz.func34, Tryz.ntmps34
    go_wp2_with (first
      | (go_at_call 33; refine HBt.out.mono ?_; rintro e w1 ⟨v, rfl, hp, hb⟩)
      | (go_at_call 64; refine (HA.out _ _ hb hp).mono ?_; rintro e w2 ⟨v2, rfl, hb2, h1, _⟩; have hp2 := h1 H0.out; obtain ⟨y, rfl, ht⟩ := hp2.iface; clear hp hp2 h1)
      | (go_at_call 9; refine (holds_tab ht _ _).mono ?_; rintro e w3 ⟨rfl, rfl⟩))
    go_ret
    exact ⟨rfl, below_step hb hb2⟩
  · have hc : canN ws = 99 := if_neg h0
    rw [hc]
    have H0 := Lib.hid h0
    have h0b : (allE (.kind 2) ws == 0) = false := by simpa using h0
    clear hc h0
    go_enter Tryz.func34, Tryz.ntmps34
    go_wp2_with (first
      | (go_at_call 33; refine HBt.out.mono ?_; rintro e w1 ⟨v, rfl, hp, hb⟩)
      | (go_at_call 64; refine (HA.out _ _ hb hp).mono ?_; rintro e w2 ⟨v2, rfl, hb2, _, h1⟩; have hp2 := h1 H0.out; subst hp2; clear hp h1))
    go_ret
    exact ⟨rfl, below_step hb hb2⟩
def kindS (a : Nat) : Nat := 1 + a % 7
/-- The wrapper that three small numbers tell. -/
def smallW (a b c : Nat) : W :=
  ⟨kindS a, if kindS a = 1 ∨ kindS a = 2 then b % 64 else 0, if kindS a = 3 ∨ kindS a = 5 then (c : Int) else 0, if kindS a = 6 then ⟨#[120]⟩ else ⟨#[]⟩⟩
set_option maxRecDepth 100000 in
set_option maxHeartbeats 4000000 in
theorem wrapper_0 (a b c : Nat) (ha : a < 256) (hb : b < 256) (h : (a : Int) % 7 = 0) (d : ByteArray) (w : World) : Calls Tryz.prog 10 #[.agg #[.int .u8 a, .int .u8 b, .int .u8 c, .string d]] w fun e w' => e = .returned (.agg (smallW a b c).vals) ∧ Below w.heap.size w w' := by
  have hk : kindS a = 1 := by unfold kindS; omega
  have hv : (smallW a b c).vals = #[.int .u8 1, .int .u16 ((b : Int) % 64), .int .i64 (0), .string ⟨#[]⟩] := by
    simp [W.vals, smallW, hk]
  rw [hv]
  clear hv hk
  go_enter Tryz.func10, Tryz.ntmps10
  go_wp2
  exact bodyPost_ret (results_cell_row rfl _ _ (w.heap.size + 1) _ _ _ _ rfl ((heap_alloc_old _ _ (by simp)).trans (heap_alloc2_new _ _ _)) rfl rfl info40) rfl ⟨rfl, (((Below.refl _ w).alloc (Nat.le_refl _) _).alloc (by simp) _).alloc (by simp; omega) _⟩
set_option maxRecDepth 100000 in
set_option maxHeartbeats 4000000 in
theorem wrapper_1 (a b c : Nat) (ha : a < 256) (hb : b < 256) (h : (a : Int) % 7 = 1) (d : ByteArray) (w : World) : Calls Tryz.prog 10 #[.agg #[.int .u8 a, .int .u8 b, .int .u8 c, .string d]] w fun e w' => e = .returned (.agg (smallW a b c).vals) ∧ Below w.heap.size w w' := by
  have hk : kindS a = 2 := by unfold kindS; omega
  have hv : (smallW a b c).vals = #[.int .u8 2, .int .u16 ((b : Int) % 64), .int .i64 (0), .string ⟨#[]⟩] := by
    simp [W.vals, smallW, hk]
  rw [hv]
  clear hv hk
  go_enter Tryz.func10, Tryz.ntmps10
  go_wp2
  exact bodyPost_ret (results_cell_row rfl _ _ (w.heap.size + 1) _ _ _ _ rfl ((heap_alloc_old _ _ (by simp)).trans (heap_alloc2_new _ _ _)) rfl rfl info40) rfl ⟨rfl, (((Below.refl _ w).alloc (Nat.le_refl _) _).alloc (by simp) _).alloc (by simp; omega) _⟩
set_option maxRecDepth 100000 in
set_option maxHeartbeats 4000000 in
theorem wrapper_2 (a b c : Nat) (ha : a < 256) (hc : c < 256) (h : (a : Int) % 7 = 2) (d : ByteArray) (w : World) : Calls Tryz.prog 10 #[.agg #[.int .u8 a, .int .u8 b, .int .u8 c, .string d]] w fun e w' => e = .returned (.agg (smallW a b c).vals) ∧ Below w.heap.size w w' := by
  have hk : kindS a = 3 := by unfold kindS; omega
  have hv : (smallW a b c).vals = #[.int .u8 3, .int .u16 (0), .int .i64 (c), .string ⟨#[]⟩] := by
    simp [W.vals, smallW, hk]
  rw [hv]
  clear hv hk
  go_enter Tryz.func10, Tryz.ntmps10
  go_wp2
  exact bodyPost_ret (results_cell_row rfl _ _ (w.heap.size + 1) _ _ _ _ rfl ((heap_alloc_old _ _ (by simp)).trans (heap_alloc2_new _ _ _)) rfl rfl info40) rfl ⟨rfl, (((Below.refl _ w).alloc (Nat.le_refl _) _).alloc (by simp) _).alloc (by simp; omega) _⟩
set_option maxRecDepth 100000 in
set_option maxHeartbeats 4000000 in
theorem wrapper_3 (a b c : Nat) (ha : a < 256) (h : (a : Int) % 7 = 3) (d : ByteArray) (w : World) : Calls Tryz.prog 10 #[.agg #[.int .u8 a, .int .u8 b, .int .u8 c, .string d]] w fun e w' => e = .returned (.agg (smallW a b c).vals) ∧ Below w.heap.size w w' := by
  have hk : kindS a = 4 := by unfold kindS; omega
  have hv : (smallW a b c).vals = #[.int .u8 4, .int .u16 (0), .int .i64 (0), .string ⟨#[]⟩] := by
    simp [W.vals, smallW, hk]
  rw [hv]
  clear hv hk
  go_enter Tryz.func10, Tryz.ntmps10
  go_wp2
  exact bodyPost_ret (results_cell_row rfl _ _ (w.heap.size + 1) _ _ _ _ rfl ((heap_alloc_old _ _ (by simp)).trans (heap_alloc2_new _ _ _)) rfl rfl info40) rfl ⟨rfl, (((Below.refl _ w).alloc (Nat.le_refl _) _).alloc (by simp) _).alloc (by simp; omega) _⟩
set_option maxRecDepth 100000 in
set_option maxHeartbeats 4000000 in
theorem wrapper_4 (a b c : Nat) (ha : a < 256) (hc : c < 256) (h : (a : Int) % 7 = 4) (d : ByteArray) (w : World) : Calls Tryz.prog 10 #[.agg #[.int .u8 a, .int .u8 b, .int .u8 c, .string d]] w fun e w' => e = .returned (.agg (smallW a b c).vals) ∧ Below w.heap.size w w' := by
  have hk : kindS a = 5 := by unfold kindS; omega
  have hv : (smallW a b c).vals = #[.int .u8 5, .int .u16 (0), .int .i64 (c), .string ⟨#[]⟩] := by
    simp [W.vals, smallW, hk]
  rw [hv]
  clear hv hk
  go_enter Tryz.func10, Tryz.ntmps10
  go_wp2
  exact bodyPost_ret (results_cell_row rfl _ _ (w.heap.size + 1) _ _ _ _ rfl ((heap_alloc_old _ _ (by simp)).trans (heap_alloc2_new _ _ _)) rfl rfl info40) rfl ⟨rfl, (((Below.refl _ w).alloc (Nat.le_refl _) _).alloc (by simp) _).alloc (by simp; omega) _⟩
set_option maxRecDepth 100000 in
set_option maxHeartbeats 4000000 in
theorem wrapper_5 (a b c : Nat) (ha : a < 256) (h : (a : Int) % 7 = 5) (d : ByteArray) (w : World) : Calls Tryz.prog 10 #[.agg #[.int .u8 a, .int .u8 b, .int .u8 c, .string d]] w fun e w' => e = .returned (.agg (smallW a b c).vals) ∧ Below w.heap.size w w' := by
  have hk : kindS a = 6 := by unfold kindS; omega
  have hv : (smallW a b c).vals = #[.int .u8 6, .int .u16 (0), .int .i64 (0), .string ⟨#[120]⟩] := by
    simp [W.vals, smallW, hk]
  rw [hv]
  clear hv hk
  go_enter Tryz.func10, Tryz.ntmps10
  go_wp2
  exact bodyPost_ret (results_cell_row rfl _ _ (w.heap.size + 1) _ _ _ _ rfl ((heap_alloc_old _ _ (by simp)).trans (heap_alloc2_new _ _ _)) rfl rfl info40) rfl ⟨rfl, (((Below.refl _ w).alloc (Nat.le_refl _) _).alloc (by simp) _).alloc (by simp; omega) _⟩
set_option maxRecDepth 100000 in
set_option maxHeartbeats 4000000 in
theorem wrapper_6 (a b c : Nat) (ha : a < 256) (h : (a : Int) % 7 = 6) (d : ByteArray) (w : World) : Calls Tryz.prog 10 #[.agg #[.int .u8 a, .int .u8 b, .int .u8 c, .string d]] w fun e w' => e = .returned (.agg (smallW a b c).vals) ∧ Below w.heap.size w w' := by
  have hk : kindS a = 7 := by unfold kindS; omega
  have hv : (smallW a b c).vals = #[.int .u8 7, .int .u16 (0), .int .i64 (0), .string ⟨#[]⟩] := by
    simp [W.vals, smallW, hk]
  rw [hv]
  clear hv hk
  go_enter Tryz.func10, Tryz.ntmps10
  go_wp2
  exact bodyPost_ret (results_cell_row rfl _ _ (w.heap.size + 1) _ _ _ _ rfl ((heap_alloc_old _ _ (by simp)).trans (heap_alloc2_new _ _ _)) rfl rfl info40) rfl ⟨rfl, (((Below.refl _ w).alloc (Nat.le_refl _) _).alloc (by simp) _).alloc (by simp; omega) _⟩
theorem wrapper_any (a b c : Nat) (ha : a < 256) (hb : b < 256) (hc : c < 256) (d : ByteArray) (w : World) : Calls Tryz.prog 10 #[.agg #[.int .u8 a, .int .u8 b, .int .u8 c, .string d]] w fun e w' => e = .returned (.agg (smallW a b c).vals) ∧ Below w.heap.size w w' := by
  have h : (a : Int) % 7 = 0 ∨ (a : Int) % 7 = 1 ∨ (a : Int) % 7 = 2 ∨ (a : Int) % 7 = 3 ∨ (a : Int) % 7 = 4 ∨ (a : Int) % 7 = 5 ∨ (a : Int) % 7 = 6 := by omega
  rcases h with h | h | h | h | h | h | h
  · exact wrapper_0 a b c ha hb h d w
  · exact wrapper_1 a b c ha hb h d w
  · exact wrapper_2 a b c ha hc h d w
  · exact wrapper_3 a b c ha h d w
  · exact wrapper_4 a b c ha hc h d w
  · exact wrapper_5 a b c ha h d w
  · exact wrapper_6 a b c ha h d w
end Go.Proofs.YtbhcfopokdcplaaGreatDoor
