/-
  wrap.text, wrap.Check: whether a wrapper may be. Condition: utf8's two tables lie as the library lays them.
-/
import Derived.Test.YtbhcfopokdcplaaGreatDoorG
import Derived.Test.YtbhcfopokdcplaaGreatDoorShelf
import Derived.WalkLawsBesides
namespace Go.Proofs.YtbhcfopokdcplaaGreatDoor
open Go.RowKit
/-- utf8's tables. -/
def Tabs (w : World) : Prop := Lib.Utf8Tabs (Tryz.laysValid_ren.g 3) (Tryz.laysValid_ren.g 4) w
theorem Tabs.below {w w' : World} (h : Tabs w) (hb : Below w.heap.size w w') : Tabs w' := Utf8Tabs_below h hb
/-- A wrapper's text may be. -/
def wText (s : ByteArray) : Bool := decide (s.size ≤ 64) && Lib.validD s.data.toList
set_option maxRecDepth 100000 in
theorem text_any (s : ByteArray) (w : World) (hT : Tabs w) : Calls Tryz.prog 65 #[.string s] w fun e w' => e = .returned (.bool (wText s)) ∧ Below w.heap.size w w' := by
  unfold wText
  by_cases h : s.size ≤ 64
  · have cV := Tryz.utf8_ValidString s w (by omega) hT
    generalize Lib.validD s.data.toList = V at *
    have CV := Lib.hid cV
    clear cV hT
    have hd : decide ((s.size : Int) ≤ 64) = true := decide_eq_true (by omega)
    rw [decide_eq_true h, Bool.true_and]
    go_enter Tryz.func65, Tryz.ntmps65
    go_wp2_with (go_at_call 75; refine CV.out.mono ?_; rintro e w' ⟨rfl, hb⟩)
    go_ret
    exact ⟨rfl, hb⟩
  · have hd : decide ((s.size : Int) ≤ 64) = false := decide_eq_false (by omega)
    rw [decide_eq_false h, Bool.false_and]
    clear hT
    go_enter Tryz.func65, Tryz.ntmps65
    go_wp2
    go_ret
    exact ⟨rfl, Below.refl _ _⟩
theorem bcell {W w1 : World} (hb : Below W.heap.size W w1) : (∀ b o, b < W.heap.size → w1.cell? ⟨b, o, none⟩ = W.cell? ⟨b, o, none⟩) ∧ (∀ b o, b < W.heap.size → w1.frozen? ⟨b, o, none⟩ = W.frozen? ⟨b, o, none⟩) :=
  ⟨fun b o h => hb.cell (p := ⟨b, o, none⟩) h, fun b o h => hb.frozen (p := ⟨b, o, none⟩) h⟩
/-- Whether a wrapper may be. -/
def wrapOK (k m : Nat) (n : Int) (s : ByteArray) : Bool :=
  if k = 1 ∨ k = 2 then decide (bits .andNot .u16 m 63 = 0 ∧ n = 0 ∧ s.toList = [])
  else if k = 3 then decide (m = 0 ∧ 0 ≤ n ∧ n ≤ 16384 ∧ s.toList = [])
  else if k = 5 then decide (m = 0 ∧ -1 ≤ n ∧ n ≤ 1048576 ∧ s.toList = [])
  else if k = 4 then decide (m = 0 ∧ n = 0) && wText s
  else if k = 6 then decide (m = 0 ∧ n = 0 ∧ ¬ s.toList = []) && wText s
  else if k = 7 then decide (m = 0 ∧ n = 0 ∧ s.toList = [])
  else false
/-- The number of what is wrong with a wrapper. -/
def wrapErr (k m : Nat) (n : Int) (s : ByteArray) : Int := if wrapOK k m n s then 0 else 70
set_option maxRecDepth 100000 in
set_option maxHeartbeats 4000000 in
theorem Check_12 (k m : Nat) (hk : k = 1 ∨ k = 2) (n : Int) (s : ByteArray) (w : World) :
    Calls Tryz.prog 37 #[.agg #[.int .u8 k, .int .u16 m, .int .i64 n, .string s]] w fun e w' => e = .returned (.int .i64 (wrapErr k m n s)) ∧ Below w.heap.size w w' := by
  rcases hk with rfl | rfl
  all_goals
    go_enter Tryz.func37, Tryz.ntmps37
    go_wp2
    all_goals
      go_ret
      refine ⟨?_, ((Below.refl _ _).alloc (Nat.le_refl _) _).alloc (by simp) _⟩
      unfold wrapErr wrapOK
      simp [*]
set_option maxRecDepth 100000 in
set_option maxHeartbeats 4000000 in
theorem Check_7 (m : Nat) (n : Int) (s : ByteArray) (w : World) :
    Calls Tryz.prog 37 #[.agg #[.int .u8 7, .int .u16 m, .int .i64 n, .string s]] w fun e w' => e = .returned (.int .i64 (wrapErr 7 m n s)) ∧ Below w.heap.size w w' := by
  go_enter Tryz.func37, Tryz.ntmps37
  go_wp2
  all_goals
    go_ret
    refine ⟨?_, ((Below.refl _ _).alloc (Nat.le_refl _) _).alloc (by simp) _⟩
    unfold wrapErr wrapOK
    simp [*]
set_option maxRecDepth 100000 in
set_option maxHeartbeats 4000000 in
theorem Check_3 (m : Nat) (n : Int) (s : ByteArray) (w : World) :
    Calls Tryz.prog 37 #[.agg #[.int .u8 3, .int .u16 m, .int .i64 n, .string s]] w fun e w' => e = .returned (.int .i64 (wrapErr 3 m n s)) ∧ Below w.heap.size w w' := by
  have hn : n < 0 ∨ (0 ≤ n ∧ n ≤ 16384) ∨ 16384 < n := by omega
  rcases hn with h1 | ⟨h1, h2⟩ | h2
  · have h3 : ¬ 0 ≤ n := by omega
    go_enter Tryz.func37, Tryz.ntmps37
    go_wp2
    all_goals
      go_ret
      refine ⟨?_, ((Below.refl _ _).alloc (Nat.le_refl _) _).alloc (by simp) _⟩
      unfold wrapErr wrapOK
      simp
      intros
      omega
  · go_enter Tryz.func37, Tryz.ntmps37
    go_wp2
    all_goals
      go_ret
      refine ⟨?_, ((Below.refl _ _).alloc (Nat.le_refl _) _).alloc (by simp) _⟩
      unfold wrapErr wrapOK
      simp [*]
  · have h3 : ¬ n ≤ 16384 := by omega
    have h1 : 0 ≤ n := by omega
    go_enter Tryz.func37, Tryz.ntmps37
    go_wp2
    all_goals
      go_ret
      refine ⟨?_, ((Below.refl _ _).alloc (Nat.le_refl _) _).alloc (by simp) _⟩
      unfold wrapErr wrapOK
      simp
      intros
      omega
set_option maxRecDepth 100000 in
set_option maxHeartbeats 4000000 in
theorem Check_5 (m : Nat) (n : Int) (s : ByteArray) (w : World) :
    Calls Tryz.prog 37 #[.agg #[.int .u8 5, .int .u16 m, .int .i64 n, .string s]] w fun e w' => e = .returned (.int .i64 (wrapErr 5 m n s)) ∧ Below w.heap.size w w' := by
  have hn : n < -1 ∨ (-1 ≤ n ∧ n ≤ 1048576) ∨ 1048576 < n := by omega
  rcases hn with h1 | ⟨h1, h2⟩ | h2
  · have h3 : ¬ -1 ≤ n := by omega
    go_enter Tryz.func37, Tryz.ntmps37
    go_wp2
    all_goals
      go_ret
      refine ⟨?_, ((Below.refl _ _).alloc (Nat.le_refl _) _).alloc (by simp) _⟩
      unfold wrapErr wrapOK
      simp
      intros
      omega
  · go_enter Tryz.func37, Tryz.ntmps37
    go_wp2
    all_goals
      go_ret
      refine ⟨?_, ((Below.refl _ _).alloc (Nat.le_refl _) _).alloc (by simp) _⟩
      unfold wrapErr wrapOK
      simp [*]
  · have h3 : ¬ n ≤ 1048576 := by omega
    have h1 : -1 ≤ n := by omega
    go_enter Tryz.func37, Tryz.ntmps37
    go_wp2
    all_goals
      go_ret
      refine ⟨?_, ((Below.refl _ _).alloc (Nat.le_refl _) _).alloc (by simp) _⟩
      unfold wrapErr wrapOK
      simp
      intros
      omega
theorem wrapOK_none (k m : Nat) (hk : k = 0 ∨ 8 ≤ k) (n : Int) (s : ByteArray) : wrapOK k m n s = false := by
  unfold wrapOK
  rw [if_neg (by omega), if_neg (by omega), if_neg (by omega), if_neg (by omega), if_neg (by omega), if_neg (by omega)]
set_option maxRecDepth 100000 in
set_option maxHeartbeats 4000000 in
theorem Check_none (k m : Nat) (hk : k = 0 ∨ 8 ≤ k) (n : Int) (s : ByteArray) (w : World) :
    Calls Tryz.prog 37 #[.agg #[.int .u8 k, .int .u16 m, .int .i64 n, .string s]] w fun e w' => e = .returned (.int .i64 (wrapErr k m n s)) ∧ Below w.heap.size w w' := by
  have ho : wrapErr k m n s = 70 := by
    unfold wrapErr
    rw [wrapOK_none k m hk n s]
    rfl
  rw [ho]
  clear ho
  rcases hk with rfl | hk
  all_goals
    go_enter Tryz.func37, Tryz.ntmps37
    go_wp2
    go_ret
    exact ⟨rfl, ((Below.refl _ _).alloc (Nat.le_refl _) _).alloc (by simp) _⟩
set_option maxRecDepth 100000 in
set_option maxHeartbeats 4000000 in
theorem Check_4 (m : Nat) (n : Int) (s : ByteArray) (w : World) (hT : Tabs w) :
    Calls Tryz.prog 37 #[.agg #[.int .u8 4, .int .u16 m, .int .i64 n, .string s]] w fun e w' => e = .returned (.int .i64 (wrapErr 4 m n s)) ∧ Below w.heap.size w w' := by
  have hc := fun W hb => text_any s W (Tabs.below hT hb)
  have HC := Lib.hid hc
  clear hc hT
  generalize ht : wText s = V at *
  have HV := Lib.hid ht
  clear ht
  cases V
  all_goals
    go_enter Tryz.func37, Tryz.ntmps37
    go_wp2_with (go_at_call 65; refine (HC.out _ (((Below.refl _ _).alloc (Nat.le_refl _) _).alloc (by simp) _)).mono ?_; rintro e w1 ⟨rfl, hb⟩; obtain ⟨hc, hf⟩ := bcell hb; have hz := hb.size)
    all_goals
      go_ret
      refine ⟨?_, ((((Below.refl _ w).alloc (Nat.le_refl _) _).alloc (by simp) _).trans (hb.mono (by simp; omega))).setCell (by simp) _⟩
      unfold wrapErr wrapOK
      simp [HV.out, *]
set_option maxRecDepth 100000 in
set_option maxHeartbeats 4000000 in
theorem Check_6 (m : Nat) (n : Int) (s : ByteArray) (w : World) (hT : Tabs w) :
    Calls Tryz.prog 37 #[.agg #[.int .u8 6, .int .u16 m, .int .i64 n, .string s]] w fun e w' => e = .returned (.int .i64 (wrapErr 6 m n s)) ∧ Below w.heap.size w w' := by
  by_cases h0 : s.toList = []
  · have h0b : (s.toList == []) = true := by rw [h0]; rfl
    have h0c : (!(s.toList == [])) = false := by rw [h0b]; rfl
    clear hT
    go_enter Tryz.func37, Tryz.ntmps37
    go_wp2
    all_goals
      go_ret
      refine ⟨?_, ((Below.refl _ _).alloc (Nat.le_refl _) _).alloc (by simp) _⟩
      unfold wrapErr wrapOK
      simp [h0]
  · have hc := fun W hb => text_any s W (Tabs.below hT hb)
    have HC := Lib.hid hc
    clear hc hT
    generalize ht : wText s = V at *
    have HV := Lib.hid ht
    clear ht
    have h0b : (s.toList == []) = false := beq_eq_false_iff_ne.2 h0
    cases V
    all_goals
      go_enter Tryz.func37, Tryz.ntmps37
      go_wp2_with (go_at_call 65; refine (HC.out _ (((Below.refl _ _).alloc (Nat.le_refl _) _).alloc (by simp) _)).mono ?_; rintro e w1 ⟨rfl, hb⟩; obtain ⟨hc, hf⟩ := bcell hb; have hz := hb.size)
      all_goals
        go_ret
        refine ⟨?_, ((((Below.refl _ w).alloc (Nat.le_refl _) _).alloc (by simp) _).trans (hb.mono (by simp; omega))).setCell (by simp) _⟩
        unfold wrapErr wrapOK
        simp [HV.out, *]
/-- wrap.Check. -/
theorem Check_any (k m : Nat) (n : Int) (s : ByteArray) (w : World) (hT : Tabs w) :
    Calls Tryz.prog 37 #[.agg #[.int .u8 k, .int .u16 m, .int .i64 n, .string s]] w fun e w' => e = .returned (.int .i64 (wrapErr k m n s)) ∧ Below w.heap.size w w' := by
  have hk : (k = 1 ∨ k = 2) ∨ k = 3 ∨ k = 4 ∨ k = 5 ∨ k = 6 ∨ k = 7 ∨ (k = 0 ∨ 8 ≤ k) := by omega
  rcases hk with hk | rfl | rfl | rfl | rfl | rfl | hk
  · exact Check_12 k m hk n s w
  · exact Check_3 m n s w
  · exact Check_4 m n s w hT
  · exact Check_5 m n s w
  · exact Check_6 m n s w hT
  · exact Check_7 m n s w
  · exact Check_none k m hk n s w
end Go.Proofs.YtbhcfopokdcplaaGreatDoor
