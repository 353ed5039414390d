/-
  part.check of a node that may be. Condition: utf8's two tables lie as the library lays them.
-/
import Derived.Test.YtbhcfopokdcplaaGreatDoorM
namespace Go.Proofs.YtbhcfopokdcplaaGreatDoor
open Go.RowKit
theorem below_step {w a b : World} (h : Below w.heap.size w a) (k : Below a.heap.size a b) : Below w.heap.size w b := h.trans (k.mono h.size)
theorem lt_step {n : Nat} {a b : World} (h : n < a.heap.size) (k : Below a.heap.size a b) : n < b.heap.size := Nat.lt_of_lt_of_le h k.size
theorem ints6 (w : World) (a b c d e f : Int) (t : TypeId) : IntsAt (w.heap.size + 1) (w.alloc (.cells #[.int .i64 a, .int .i64 b, .int .i64 c, .int .i64 d, .int .i64 e, .int .i64 f] t)) (some ⟨w.heap.size, 0, none⟩) [a, b, c, d, e, f] := by
  intro i x hx
  refine ⟨w.heap.size, 0, rfl, by omega, ?_⟩
  rcases i with _ | _ | _ | _ | _ | _ | i
  all_goals
    simp at hx
    try subst hx
    try simp
theorem six_fine {a b c d e f : Int} (h : (0 ≤ a ∧ a ≤ 16384) ∧ (0 ≤ b ∧ b ≤ 16384) ∧ (0 ≤ c ∧ c ≤ 16384) ∧ (0 ≤ d ∧ d ≤ 16384) ∧ (0 ≤ e ∧ e ≤ 16384) ∧ (0 ≤ f ∧ f ≤ 16384)) : ∀ x ∈ [a, b, c, d, e, f], 0 ≤ x ∧ x ≤ 16384 := by
  intro x hx
  simp only [List.mem_cons, List.not_mem_nil, or_false] at hx
  obtain ⟨h1, h2, h3, h4, h5, h6⟩ := h
  rcases hx with rfl | rfl | rfl | rfl | rfl | rfl <;> assumption
set_option maxRecDepth 100000 in
set_option maxHeartbeats 8000000 in
theorem check_fine (n : N) (hf : n.fine) (ws ks : Value) (w : World) (hT : Tabs w) :
    Calls Tryz.prog 29 #[.agg (n.vals ws ks)] w fun e w' => e = .returned (.int .i64 0) ∧ Below w.heap.size w w' := by
  obtain ⟨⟨k1, k2⟩, ⟨t1, t2, t3⟩, ⟨⟨a1, a2⟩, ⟨a3, a4⟩, ⟨a5, a6⟩, ⟨a7, a8⟩, ⟨a9, a10⟩, ⟨a11, a12⟩⟩, ⟨m1, m2⟩, ⟨o1, o2⟩, ⟨⟨c1, c2⟩, ⟨c3, c4⟩⟩, ⟨⟨f1, f2⟩, ⟨f3, f4⟩⟩⟩ := hf
  unfold N.vals
  obtain ⟨kind, name, cls, text, minW, minH, maxW, maxH, grow, order, column, columns, span, gap, offX, offY, hidden⟩ := n
  dsimp only at *
  have T1 := fun W h => ptext_fine name 64 (by decide) W (hT.below (w' := W) h) t1
  have T2 := fun W h => ptext_fine cls 64 (by decide) W (hT.below (w' := W) h) t2
  have T3 := fun W h => ptext_fine text 65536 (by decide) W (hT.below (w' := W) h) t3
  have M1 := most_fine minW maxW m1
  have M2 := most_fine minH maxH m2
  have HT1 := Lib.hid T1
  have HT2 := Lib.hid T2
  have HT3 := Lib.hid T3
  have HM1 := Lib.hid M1
  have HM2 := Lib.hid M2
  clear T1 T2 T3 M1 M2 m1 m2 t1 t2 t3 hT
  have H6 := Lib.hid (six_fine ⟨⟨a1, a2⟩, ⟨a3, a4⟩, ⟨a5, a6⟩, ⟨a7, a8⟩, ⟨a9, a10⟩, ⟨a11, a12⟩⟩)
  have hb0 : ∀ o, Below w.heap.size w (w.alloc o) := fun o => (Below.refl _ _).alloc (Nat.le_refl _) o
  go_enter Tryz.func29, Tryz.ntmps29
  go_wp2_with (first
    | (go_at_call 60; refine (from_fine _ _ _ (by omega) (by omega) _).mono ?_; rintro e w' ⟨rfl, rfl⟩)
    | (go_at_call_of 61 (name); refine (HT1.out _ (hb0 _)).mono ?_; rintro e w1 ⟨rfl, hb1⟩; obtain ⟨hc1, _⟩ := bcell hb1; have hl1 : w.heap.size < w1.heap.size := lt_step (by simp) hb1; have hbw1 := below_step (hb0 _) hb1)
    | (go_at_call_of 61 (cls); refine (HT2.out _ hbw1).mono ?_; rintro e w2 ⟨rfl, hb2⟩; obtain ⟨hc2, _⟩ := bcell hb2; have hl2 : w.heap.size < w2.heap.size := lt_step hl1 hb2; have hbw2 := below_step hbw1 hb2)
    | (go_at_call_of 61 (text); refine (HT3.out _ hbw2).mono ?_; rintro e w3 ⟨rfl, hb3⟩; obtain ⟨hc3, _⟩ := bcell hb3; have hl3 : w.heap.size < w3.heap.size := lt_step hl2 hb3; have hbw3 := below_step hbw2 hb3)
    | (go_at_call 62; refine (sides_fine 6 (w3.heap.size + 1) _ [minW, minH, maxW, maxH, grow, gap] _ (by simp) (ints6 _ _ _ _ _ _ _ _) H6.out (by simp)).mono ?_; rintro e w4 ⟨rfl, hb4⟩; obtain ⟨hc4, _⟩ := bcell hb4; have hl4 : w.heap.size < w4.heap.size := lt_step (lt_alloc hl3) hb4; have hbw4 := below_step (hbw3.alloc (by omega) _) hb4)
    | (go_at_call_of 63 (minW); refine (HM1.out _).mono ?_; rintro e w' ⟨rfl, rfl⟩)
    | (go_at_call_of 63 (minH); refine (HM2.out _).mono ?_; rintro e w' ⟨rfl, rfl⟩))
  go_ret
  exact ⟨rfl, hbw4⟩
end Go.Proofs.YtbhcfopokdcplaaGreatDoor
