/-
  part.Make of a node that may be, with no parts. Condition: utf8's two tables lie as the library lays them.
-/
import Derived.Test.YtbhcfopokdcplaaGreatDoorP
import Derived.Lib.BufferMore
import Derived.Deep.RegionHeld3
namespace Go.Proofs.YtbhcfopokdcplaaGreatDoor
open Go.RowKit
set_option maxRecDepth 100000 in
theorem Clone_nil (w : World) : Calls Tryz.prog 31 #[.slice none 0 0] w fun e w' => e = .returned (.slice none 0 0) ∧ w = w' := by
  have hq := Lib.run_eql_slice_nil (P := Tryz.prog) w 82 24 none 0 0 0 0 Tryz.underlying82
  go_enter Tryz.func31, Tryz.ntmps31
  go_wp2
  go_ret
  exact ⟨rfl, rfl⟩
theorem info35 : (Tryz.prog.info? 35).map (·.size) = some 19 := by kernel_rfl
theorem set_row {W : World} {b : Nat} {C : Array Value} {T : TypeId} {fr : Nat × Nat} (h : W.heap[b]? = some (.cells C T fr)) (u v : Value) :
    ((W.setCell ⟨b, 17, none⟩ u).setCell ⟨b, 18, none⟩ v).heap[b]? = some (.cells ((C.setIfInBounds 17 u).setIfInBounds 18 v) T fr) :=
  Lib.heap_setCell_same (i := 18) (Lib.heap_setCell_same (i := 17) h u) v
theorem cell_row {W : World} {b : Nat} {C : Array Value} {T : TypeId} {fr : Nat × Nat} (h : W.heap[b]? = some (.cells C T fr)) (i : Nat) : W.cell? ⟨b, i, none⟩ = C[i]? := by
  simp [World.cell?, h]
set_option maxRecDepth 100000 in
theorem zero89 : nilZero Tryz.prog 89 = true := by kernel_rfl
set_option maxRecDepth 100000 in
theorem kind_info (k : Nat) (h1 : 1 ≤ k) (h2 : k ≤ 10) : hasInfo Tryz.prog (kindT.getD (k - 1) 0) = true := by
  have hm : (kindT.getD (k - 1) 0, kindCan.getD (k - 1) 0) ∈ tabT := by
    have hh : ∀ k : Fin 10, (kindT.getD k.val 0, kindCan.getD k.val 0) ∈ tabT := by decide +kernel
    exact hh ⟨k - 1, by omega⟩
  exact List.all_eq_true.1 tab_info _ hm
def NewPost (k : Nat) (w : World) (e : Ending) (w' : World) : Prop :=
  ∃ b T, e = .returned (.iface T (.pointer (some ⟨b, 0, none⟩))) ∧ hasInfo Tryz.prog T = true ∧ Below w.heap.size w w' ∧ IsPart w'.heap.size w' (.iface T (.pointer (some ⟨b, 0, none⟩))) (.kind k)
set_option maxRecDepth 100000 in
theorem fresh_part (k : Nat) (h1 : 1 ≤ k) (h2 : k ≤ 10) (s : ByteArray) (cs : Array Value) (hcs : cs.size = 20) (c0 : cs[0]? = some (.int .u8 k)) (c1 : cs[1]? = some (.string s)) (w : World) :
    Calls Tryz.prog 30 #[.int .u8 k, .agg cs] w (NewPost k w) := by
  refine (fresh_any k h1 h2 cs hcs w).mono ?_
  rintro e w' ⟨T, rfl, rfl⟩
  have hz : ((w.alloc (.cells cs 87)).alloc (.cells cs T)).heap[w.heap.size + 1]? = some (.cells cs T) := heap_alloc2_new _ _ _
  exact ⟨w.heap.size + 1, kindT.getD (k - 1) 0, rfl, kind_info k h1 h2, ((Below.refl _ w).alloc (Nat.le_refl _) _).alloc (by simp) _, h1, h2, _, s, by simp, rfl, (cell_row hz 0).trans c0, (cell_row hz 1).trans c1⟩
theorem yields_load_row {P : Program} {ops : Array Oper} {S : World → Prop} {o : Oper} {a : Act} (ty : TypeId) (x : Operand) (ho : o.op = .load ty x)
    (g : Nat) (hx : a.eval x = .pointer (some ⟨g, 0, none⟩)) (hw : Region.wanted o (yielded ops a.tmps) = true) (t : TypeId) (cs : Array Value) (fr : Nat × Nat) (d : TypeDesc) (hg : ∀ w : World, S w → w.heap[g]? = some (.cells cs t fr))
    (hu : P.underlying ty = some d) (hd : (match d with | .struct _ | .array _ _ => true | _ => false) = true) (hi : (P.info? ty).map (·.size) = some cs.size) : YieldsIf P ops S o (.agg cs) a := by
  refine Or.inl ⟨hw, fun w h => ?_⟩
  unfold execOp
  simp only [ho, hx, Instr.loadAt, Instr.sureAddr, Sem.run_bind, Sem.run_pure, Result.andThen_ok, run_loadVar_row w g t ty cs fr d (hg w h) hu hd hi]
theorem fold_pre (l : List Value) : ∀ (k : Nat) (z : List Value), k + l.length ≤ z.length → (l.zipIdx k).foldl (fun (cs : Array Value) x => cs.setIfInBounds x.2 x.1) z.toArray = (z.take k ++ l ++ z.drop (k + l.length)).toArray := by
  induction l with
  | nil => intro k z h; simp
  | cons v l ih =>
    intro k z h
    simp only [List.length_cons] at h
    rw [List.zipIdx_cons, List.foldl_cons]
    simp only [List.setIfInBounds_toArray]
    rw [ih (k + 1) (z.set k v) (by simp; omega)]
    rw [List.take_succ_eq_append_getElem (by simp; omega)]
    simp [List.take_set_of_le, Nat.add_assoc, Nat.add_comm 1]
    rw [List.drop_set_of_lt (by omega)]
theorem fold_z (cs z : Array Value) (n : Nat) (hn : cs.size = n) (hz : n ≤ z.size) : Array.foldl (fun (cs : Array Value) x => cs.setIfInBounds x.snd x.fst) z cs.zipIdx 0 n = (cs.toList ++ z.toList.drop n).toArray := by
  have hs : cs.zipIdx.size = n := by simpa using hn
  have h := fold_pre cs.toList 0 z.toList (by simp; omega)
  rw [← hs]
  rw [← Array.foldl_toList]
  rw [Array.toList_zipIdx]
  simp only [Array.toArray_toList] at h
  rw [h]
  simp [hn]
theorem arr19 (C : Array Value) (h : C.size = 19) : ∃ c0 c1 c2 c3 c4 c5 c6 c7 c8 c9 c10 c11 c12 c13 c14 c15 c16 c17 c18 : Value, C = #[c0, c1, c2, c3, c4, c5, c6, c7, c8, c9, c10, c11, c12, c13, c14, c15, c16, c17, c18] := by
  obtain ⟨l⟩ := C
  simp only [List.size_toArray] at h
  match l, h with
  | [c0, c1, c2, c3, c4, c5, c6, c7, c8, c9, c10, c11, c12, c13, c14, c15, c16, c17, c18], _ => exact ⟨_, _, _, _, _, _, _, _, _, _, _, _, _, _, _, _, _, _, _, rfl⟩
set_option maxRecDepth 100000 in
set_option maxHeartbeats 8000000 in
theorem Make_core (k : Nat) (hk1 : 1 ≤ k) (hk2 : k ≤ 10) (s : ByteArray) (C : Array Value) (hsz : C.size = 19) (h0 : C[0]? = some (.int .u8 k)) (h1 : C[1]? = some (.string s)) (a17 a18 : Value) (h17 : C[17]? = some a17) (h18 : C[18]? = some a18) (w : World)
    (hchk : ∀ W, Below w.heap.size w W → Calls Tryz.prog 29 #[.agg C] W fun e w' => e = .returned (.int .i64 0) ∧ Below W.heap.size W w') :
    Calls Tryz.prog 7 #[.agg C, .slice none 0 0] w fun e w' => ∃ v, e = .returned (.tuple #[v, .int .i64 0]) ∧ IsPart w'.heap.size w' v (.kind k) ∧ Below w.heap.size w w' := by
  have HC := Lib.hid hchk
  clear hchk
  have hb0 : ∀ o, Below w.heap.size w (w.alloc o) := fun o => (Below.refl _ _).alloc (Nat.le_refl _) o
  go_enter Tryz.func7, Tryz.ntmps7
  go_wp2_with (first
    | (refine wpList_load_row rfl _ _ rfl w.heap.size rfl 35 C _ _ (heap_alloc_new _ _) rfl rfl (by rw [hsz]; exact info35) ?_)
    | (go_at_call 29; refine (HC.out _ (hb0 _)).mono ?_; rintro e w1 ⟨rfl, hb1⟩; have hr1 := (hb1.block w.heap.size (by simp)).trans (heap_alloc_new _ _); have hl1 : w.heap.size < w1.heap.size := lt_step (by simp) hb1; have hc17 : w1.cell? ⟨w.heap.size, 17, none⟩ = some a17 := (hb1.cell (by simp)).trans (by simpa using h17); have hc18 : w1.cell? ⟨w.heap.size, 18, none⟩ = some a18 := (hb1.cell (by simp)).trans (by simpa using h18); have hf17 : w1.frozen? ⟨w.heap.size, 17, none⟩ = false := (hb1.frozen (by simp)).trans (by simp); have hf18 : w1.frozen? ⟨w.heap.size, 18, none⟩ = false := (hb1.frozen (by simp)).trans (by simp)))
  have hbw1 := below_step (hb0 _) hb1
  have hrow := set_row hr1 (.slice none 0 0) (.slice none 0 0)
  have hb2 : Below w.heap.size w ((w1.setCell ⟨w.heap.size, 17, none⟩ (.slice none 0 0)).setCell ⟨w.heap.size, 18, none⟩ (.slice none 0 0)) := (hbw1.setCell (Nat.le_refl _) _).setCell (Nat.le_refl _) _
  have hl2 : w.heap.size < ((w1.setCell ⟨w.heap.size, 17, none⟩ (.slice none 0 0)).setCell ⟨w.heap.size, 18, none⟩ (.slice none 0 0)).heap.size := by simpa using hl1
  clear hb1 hbw1 hr1 hc17 hc18 hf17 hf18 hl1 hb0
  generalize ((w1.setCell ⟨w.heap.size, 17, none⟩ (.slice none 0 0)).setCell ⟨w.heap.size, 18, none⟩ (.slice none 0 0)) = W at *
  clear w1
  have hsz2 : ((C.setIfInBounds 17 (.slice none 0 0)).setIfInBounds 18 (.slice none 0 0)).size = 19 := by simpa using hsz
  have h02 : ((C.setIfInBounds 17 (.slice none 0 0)).setIfInBounds 18 (.slice none 0 0))[0]? = some (.int .u8 k) := by simpa using h0
  have h12 : ((C.setIfInBounds 17 (.slice none 0 0)).setIfInBounds 18 (.slice none 0 0))[1]? = some (.string s) := by simpa using h1
  generalize ((C.setIfInBounds 17 (.slice none 0 0)).setIfInBounds 18 (.slice none 0 0)) = C2 at *
  have hcell : W.cell? ⟨w.heap.size, 0, none⟩ = some (.int .u8 k) := (cell_row hrow 0).trans h02
  have HB := Lib.hid hb2
  have HR := Lib.hid hrow
  clear hrow hb2 h0 h1 h17 h18
  refine wp_region_held_drew (S := fun W' : World => W'.cell? ⟨w.heap.size, 0, none⟩ = some (.int .u8 k) ∧ W'.heap[w.heap.size]? = some (.cells C2 35)) (by kernel_rfl) ⟨hcell, HR.out⟩ (fun hHeld => ?_)
  refine wpAnyH_take (i := 0) (oi := ⟨some 20, .fieldAddr 35 (.tmp 2) 0, 0, "part.go:86", #[], none⟩) (v := .pointer (some ⟨w.heap.size, 0, none⟩)) rfl (by kernel_rfl) (by kernel_rfl) (by kernel_rfl) (fun _ _ _ h => h) (Or.inl ⟨by rfl, ?_⟩) (by assumption) ?_
  · intro w' hSw
    try dsimp only at hSw
    go_simp
    try with_reducible rfl
  try simp only [Act.put, List.setIfInBounds_toArray, List.set_cons_zero, List.set_cons_succ]
  refine wpAnyH_take (i := 2) (oi := ⟨some 22, .load 35 (.tmp 2), 35, "part.go:86", #[], none⟩) (v := .agg C2) rfl (by kernel_rfl) (by kernel_rfl) (by kernel_rfl) (fun _ _ _ h => h) (yields_load_row 35 _ rfl w.heap.size rfl rfl 35 C2 _ _ (fun W' h => h.2) rfl rfl (by rw [hsz2]; exact info35)) (by assumption) ?_
  try simp only [Act.put, List.setIfInBounds_toArray, List.set_cons_zero, List.set_cons_succ]
  refine wpAnyH_take (i := 1) (oi := ⟨some 21, .load 5 (.tmp 20), 5, "part.go:86", #[⟨0, .data⟩], none⟩) (v := .int .u8 k) rfl (by kernel_rfl) (by kernel_rfl) (by kernel_rfl) (fun _ _ _ h => h) (Or.inl ⟨by rfl, ?_⟩) (by assumption) ?_
  · intro w' hSw
    try dsimp only at hSw
    go_simp
    try with_reducible rfl
  try simp only [Act.put, List.setIfInBounds_toArray, List.set_cons_zero, List.set_cons_succ]
  refine wpAnyH_take (i := 3) (oi := ⟨some 23, .move (.tmp 1), 82, "part.go:86", #[], none⟩) (v := .slice none 0 0) rfl (by kernel_rfl) (by kernel_rfl) (by kernel_rfl) (fun _ _ _ h => h) (Or.inl ⟨by rfl, ?_⟩) (by assumption) ?_
  · intro w' hSw
    try dsimp only at hSw
    go_simp
    try with_reducible rfl
  try simp only [Act.put, List.setIfInBounds_toArray, List.set_cons_zero, List.set_cons_succ]
  refine wpAnyH_ready (rs := [4]) (by kernel_rfl) (by simp) ?_
  refine AllReadyH.cons (o := ⟨some 24, .call ⟨.value (.func 31), #[.tmp 23], #[82]⟩, 82, "part.go:86", #[⟨3, .data⟩], none⟩) rfl (fun K hK => ?_) AllReadyH.nil
  rw [if_pos (by rfl)]
  go_simp
  go_at_call 31; refine (Clone_nil _).mono ?_; rintro e w' ⟨rfl, rfl⟩
  dsimp only
  refine hK.out _ _ hHeld (fun hHeld => ?_)
  clear hK K
  try simp only [Act.put, List.setIfInBounds_toArray, List.set_cons_zero, List.set_cons_succ]
  refine wpAnyH_ready (rs := [5]) (by kernel_rfl) (by simp) ?_
  refine AllReadyH.cons (o := ⟨some 25, .build 87 #[(0, .tmp 22), (1, .tmp 24)], 87, "part.go:86", #[⟨2, .data⟩, ⟨4, .data⟩], none⟩) rfl (fun K hK => ?_) AllReadyH.nil
  rw [if_pos (by rfl)]
  have hf := fun (z : Array Value) (hz : 19 ≤ z.size) => fold_z C2 z 19 hsz2 hz
  go_simp
  clear hf
  refine hK.out _ _ hHeld (fun hHeld => ?_)
  clear hK K
  try simp only [Act.put, List.setIfInBounds_toArray, List.set_cons_zero, List.set_cons_succ]
  refine wpAnyH_ready (rs := [6]) (by kernel_rfl) (by simp) ?_
  refine AllReadyH.cons (o := ⟨some 26, .call ⟨.value (.func 30), #[.tmp 21, .tmp 25], #[5, 87]⟩, 24, "part.go:86", #[⟨1, .data⟩, ⟨5, .data⟩, ⟨4, .chain⟩], none⟩) rfl (fun K hK => ?_) AllReadyH.nil
  rw [if_pos (by rfl)]
  go_simp
  have d0 : (C2.toList ++ [Value.slice none 0 0]).toArray.size = 20 := by simp [hsz2]
  have d1 : (C2.toList ++ [Value.slice none 0 0]).toArray[0]? = some (.int .u8 k) := by
    rw [List.getElem?_toArray, List.getElem?_append_left (by simp [hsz2])]
    simpa using h02
  have d2 : (C2.toList ++ [Value.slice none 0 0]).toArray[1]? = some (.string s) := by
    rw [List.getElem?_toArray, List.getElem?_append_left (by simp [hsz2])]
    simpa using h12
  refine (fresh_part k hk1 hk2 s _ d0 d1 d2 _).mono ?_
  rintro e w2 ⟨b, T, rfl, hTi, hbz, hp2⟩
  dsimp only
  refine hK.out _ _ ⟨(hbz.cell hl2).trans hHeld.1, (hbz.block _ hl2).trans hHeld.2⟩ (fun _ => ?_)
  clear hK K d0 d1 d2 hHeld h02 h12 hsz2
  try simp only [Act.put, List.setIfInBounds_toArray, List.set_cons_zero, List.set_cons_succ]
  refine wpAnyH_ready (rs := [7]) (by kernel_rfl) (by simp) ?_
  refine AllReadyH.cons (o := ⟨some 7, .assign (.tmp 26), 24, "part.go:86", #[⟨6, .data⟩, ⟨6, .chain⟩, ⟨0, .phase⟩, ⟨1, .phase⟩, ⟨2, .phase⟩, ⟨3, .phase⟩, ⟨4, .phase⟩, ⟨5, .phase⟩, ⟨6, .phase⟩], none⟩) rfl (fun K hK => ?_) AllReadyH.nil
  rw [if_pos (by rfl)]
  go_simp
  refine hK.out _ _ ‹_› (fun _ => ?_)
  clear hK K
  try simp only [Act.put, List.setIfInBounds_toArray, List.set_cons_zero, List.set_cons_succ]
  refine wpAnyH_done (by kernel_rfl) ?_ _
  have ha := assert_run (P := Tryz.prog) (v := .pointer (some ⟨b, 0, none⟩)) (w := w2) 24 zero89 hTi
  have HP := Lib.hid hp2
  have HZ := Lib.hid (below_step HB.out.drew hbz)
  clear hp2 hbz hTi
  generalize has Tryz.prog T 89 = q at *
  go_wp2
  all_goals
    go_ret2
    exact ⟨_, rfl, HP.out, HZ.out⟩
theorem Make_fine (n : N) (hf : n.fine) (ws ks : Value) (w : World) (hT : Tabs w) :
    Calls Tryz.prog 7 #[.agg (n.vals ws ks), .slice none 0 0] w fun e w' => ∃ v, e = .returned (.tuple #[v, .int .i64 0]) ∧ IsPart w'.heap.size w' v (.kind n.kind) ∧ Below w.heap.size w w' :=
  Make_core n.kind hf.1.1 hf.1.2 n.name (n.vals ws ks) rfl rfl rfl ws ks rfl rfl w (fun W h => check_fine n hf ws ks W (hT.below h))
end Go.Proofs.YtbhcfopokdcplaaGreatDoor
