/-
  slices.Clone of parts; part.fresh; part.Make of a node that may be. Condition: utf8's two tables lie as the library lays them.
-/
import Derived.Test.YtbhcfopokdcplaaGreatDoorO
import Derived.WalkSpells
namespace Go.Proofs.YtbhcfopokdcplaaGreatDoor
open Go.RowKit
/-- Values of one cell each that lie in memory behind a slice's address. -/
def CellsAt (B : Nat) (w : World) (A : Option Addr) (vs : List Value) : Prop :=
  (∀ v ∈ vs, v.oneCell' = true) ∧ (vs = [] ∨ ∃ b o, A = some ⟨b, o, none⟩ ∧ b < B ∧ ∀ j u, vs[j]? = some u → w.cell? ⟨b, o + j, none⟩ = some u)
theorem CellsAt.below {B B' : Nat} {w w' : World} {A : Option Addr} {vs : List Value} (h : CellsAt B w A vs) (hb : Below B w w') (hB : B ≤ B') : CellsAt B' w' A vs := by
  refine ⟨h.1, ?_⟩
  rcases h.2 with h | ⟨b, o, hA, hlt, hc⟩
  · exact .inl h
  · exact .inr ⟨b, o, hA, by omega, fun j u hj => (hb.cell (by exact hlt)).trans (hc j u hj)⟩
def ClonePost (w : World) (e : Ending) (w' : World) : Prop := ∃ A n c, e = .returned (.slice A n c) ∧ Below w.heap.size w w'
theorem addr_add (b o j : Nat) : (⟨b, o, none⟩ : Addr).add j = ⟨b, o + j, none⟩ := by
  unfold Addr.add
  split
  · next h => subst h; rfl
  · rfl
theorem info24 : (Tryz.prog.info? 24).map (fun i => (i.zero, i.size, i.bytes)) = some (some .nilIface, 1, 16) := by kernel_rfl
set_option maxRecDepth 100000 in
set_option maxHeartbeats 4000000 in
theorem Clone_parts (c B : Nat) (A : Option Addr) (vs : List Value) (w : World) (hB : B ≤ w.heap.size) (hA : CellsAt B w A vs) (hl : vs.length ≤ 2000) :
    Calls Tryz.prog 31 #[.slice A vs.length c] w (ClonePost w) := by
  have hq := fun W => Lib.run_eql_slice_nil (P := Tryz.prog) W 82 24 A vs.length c 0 0 Tryz.underlying82
  rcases A with _ | ad
  · go_enter Tryz.func31, Tryz.ntmps31
    go_wp2
    go_ret
    exact ⟨_, _, _, rfl, Below.refl _ _⟩
  · obtain ⟨i0, hi, hz0, hz1, hz2⟩ := info_parts info24
    have hnews : ∀ j u, vs[j]? = some u → (w.alloc (.cells #[] 24)).cell? (ad.add j) = some u := by
      intro j u hj
      rcases hA.2 with h | ⟨b, o, hA', hlt, hc⟩
      · rw [h] at hj; simp at hj
      · cases hA'
        rw [addr_add, World.cell?_alloc_lt _ _ _ (by show b < w.heap.size; omega)]
        exact hc j u hj
    have HN := Lib.hid hnews
    have H1 := Lib.hid hA.1
    clear hnews hA
    go_enter Tryz.func31, Tryz.ntmps31
    go_wp2_with (at_builtin; refine wpList_append_own _ rfl _ _ 82 rfl w.heap.size 24 i0 .nilIface 1 16 Tryz.underlying82 hi hz0 hz1 hz2 rfl (by decide) _ 0 [] rfl (World.ownsRow_made _ _ _ (Nat.le_refl _) (by unfold maxLen; omega) (by simp)) ad vs.length c vs rfl (by omega) HN.out H1.out (by unfold maxLen; omega) (by omega) (by simp) ?_; intro v' w1 hown' hgrow _)
    go_ret
    have hb : Below w.heap.size w w1 := ((Below.refl _ w).alloc (Nat.le_refl _) _).grown hgrow (by simp) (fun k e => by
      have e' : some w.heap.size = some k := e
      cases e'
      exact Nat.le_refl _)
    rcases hown'.2 with ⟨rfl, _⟩ | ⟨g, cap, cur, rfl, _⟩
    · exact ⟨_, _, _, rfl, hb⟩
    · exact ⟨_, _, _, rfl, hb⟩
theorem fold_set (l : List Value) : ∀ (k : Nat) (z : List Value), k + l.length = z.length → (l.zipIdx k).foldl (fun (cs : Array Value) x => cs.setIfInBounds x.2 x.1) z.toArray = (z.take k ++ l).toArray := by
  induction l with
  | nil => intro k z h; simp only [List.length_nil, Nat.add_zero] at h; subst h; simp
  | cons v l ih =>
    intro k z h
    simp only [List.length_cons] at h
    rw [List.zipIdx_cons, List.foldl_cons]
    simp only [List.setIfInBounds_toArray]
    rw [ih (k + 1) (z.set k v) (by simp; omega)]
    rw [List.take_succ_eq_append_getElem (by simp; omega)]
    simp [List.take_set_of_le]
theorem fold_zip (cs z : Array Value) (n : Nat) (hn : cs.size = n) (hz : z.size = n) : Array.foldl (fun (cs : Array Value) x => cs.setIfInBounds x.snd x.fst) z cs.zipIdx 0 n = cs := by
  have hs : cs.zipIdx.size = n := by simpa using hn
  rw [← hs]
  rw [← Array.foldl_toList]
  rw [Array.toList_zipIdx]
  have h := fold_set cs.toList 0 z.toList (by simp; omega)
  simpa using h
theorem info87 : (Tryz.prog.info? 87).map (·.size) = some 20 := by kernel_rfl
def FreshPost (k : Nat) (cs : Array Value) (w : World) (e : Ending) (w' : World) : Prop :=
  ∃ T, e = .returned (.iface (kindT.getD (k - 1) 0) (.pointer (some ⟨w.heap.size + 1, 0, none⟩))) ∧ w' = (w.alloc (.cells cs 87)).alloc (.cells cs T)
theorem fresh_end (k i : Nat) (hki : k = i) (cs z : Array Value) (h1 : cs.size = 20) (h2 : z.size = 20) (w : World) (T t : TypeId) (ht : t = kindT.getD (i - 1) 0) :
    FreshPost k cs w (.returned (.iface t (.pointer (some ⟨w.heap.size + 1, 0, none⟩)))) ((w.alloc (.cells cs 87)).alloc (.cells (Array.foldl (fun (cs : Array Value) x => cs.setIfInBounds x.snd x.fst) z cs.zipIdx 0 20) T)) := by
  subst hki
  rw [fold_zip cs z 20 h1 h2]
  exact ⟨T, by rw [ht], rfl⟩
set_option maxRecDepth 100000 in
set_option maxHeartbeats 8000000 in
theorem fresh_any (k : Nat) (h1 : 1 ≤ k) (h2 : k ≤ 10) (cs : Array Value) (hcs : cs.size = 20) (w : World) :
    Calls Tryz.prog 30 #[.int .u8 k, .agg cs] w (FreshPost k cs w) := by
  go_enter Tryz.func30, Tryz.ntmps30
  go_wp2_with (refine wpList_load_row rfl _ _ rfl w.heap.size rfl 87 cs _ _ (heap_alloc_new _ _) rfl rfl (by rw [hcs]; exact info87) ?_)
  · go_ret
    exact fresh_end k 1 (by simp only [beq_iff_eq] at *; omega) cs _ hcs rfl w _ _ rfl
  · go_ret
    exact fresh_end k 2 (by simp only [beq_iff_eq, beq_eq_false_iff_ne, ne_eq] at *; omega) cs _ hcs rfl w _ _ rfl
  · go_ret
    exact fresh_end k 3 (by simp only [beq_iff_eq, beq_eq_false_iff_ne, ne_eq] at *; omega) cs _ hcs rfl w _ _ rfl
  · go_ret
    exact fresh_end k 4 (by simp only [beq_iff_eq, beq_eq_false_iff_ne, ne_eq] at *; omega) cs _ hcs rfl w _ _ rfl
  · go_ret
    exact fresh_end k 5 (by simp only [beq_iff_eq, beq_eq_false_iff_ne, ne_eq] at *; omega) cs _ hcs rfl w _ _ rfl
  · go_ret
    exact fresh_end k 6 (by simp only [beq_iff_eq, beq_eq_false_iff_ne, ne_eq] at *; omega) cs _ hcs rfl w _ _ rfl
  · go_ret
    exact fresh_end k 7 (by simp only [beq_iff_eq, beq_eq_false_iff_ne, ne_eq] at *; omega) cs _ hcs rfl w _ _ rfl
  · go_ret
    exact fresh_end k 8 (by simp only [beq_iff_eq, beq_eq_false_iff_ne, ne_eq] at *; omega) cs _ hcs rfl w _ _ rfl
  · go_ret
    exact fresh_end k 9 (by simp only [beq_iff_eq, beq_eq_false_iff_ne, ne_eq] at *; omega) cs _ hcs rfl w _ _ rfl
  · go_ret
    exact fresh_end k 10 (by simp only [beq_eq_false_iff_ne, ne_eq] at *; omega) cs _ hcs rfl w _ _ rfl
end Go.Proofs.YtbhcfopokdcplaaGreatDoor
