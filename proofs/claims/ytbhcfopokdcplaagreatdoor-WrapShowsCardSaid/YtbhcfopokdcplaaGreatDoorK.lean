/-
  wrap.Around: a wrapper about a part. Condition: utf8's two tables lie as the library lays them.
-/
import Derived.Test.YtbhcfopokdcplaaGreatDoorJ
namespace Go.Proofs.YtbhcfopokdcplaaGreatDoor
open Go.RowKit
/-- What Around's error is. -/
def aroundE (p : PD) (x : W) : Int := if x.ok then (if x.kind = 7 then 0 else if 16 ≤ p.steps then 4 else 0) else 70
/-- What Around answers where there is no error. -/
def aroundP (p : PD) (x : W) : PD := if x.kind = 7 then .half else .wrap (sayN p.can x.kind x.mask) p
/-- What Around answers. -/
def AroundPost (p : PD) (x : W) (w : World) (e : Ending) (w' : World) : Prop :=
  ∃ v, e = .returned (.tuple #[v, .int .i64 (aroundE p x)]) ∧ Below w.heap.size w w' ∧ (aroundE p x = 0 → IsPart w'.heap.size w' v (aroundP p x)) ∧ (aroundE p x ≠ 0 → v = .nilIface)
theorem can_lt {B : Nat} {w : World} {p : PD} {v : Value} (h : IsPart B w v p) : p.can < 64 := by
  obtain ⟨x, _, ht⟩ := h.iface
  exact tab_lt ht
theorem below_box {w2 w3 : World} {O : Obj} (h : Below (w2.alloc O).drew.heap.size (w2.alloc O).drew w3) : Below w2.heap.size w2 w3 :=
  (((Below.refl _ w2).alloc (Nat.le_refl _) O).drew).trans (h.mono (by show w2.heap.size ≤ (w2.alloc O).heap.size; simp))
theorem below_drew {w2 w3 : World} (h : Below w2.drew.heap.size w2.drew w3) : Below w2.heap.size w2 w3 := ((Below.refl _ w2).drew).trans h
theorem lt_alloc {n : Nat} {w : World} {O : Obj} (h : n < w.heap.size) : n < (w.alloc O).heap.size := by simp; omega
theorem cell_lt {w : World} {a : Addr} {v : Value} (h : w.cell? a = some v) : a.block < w.heap.size := by
  rcases Nat.lt_or_ge a.block w.heap.size with h' | h'
  · exact h'
  · simp [World.cell?, Array.getElem?_eq_none h'] at h
theorem isPart_new {B q b c : Nat} {w W' : World} {v : Value} {p : PD} (hp : IsPart B w v p) (hq : q < 64) (hb : Below w.heap.size w W') (hB : B ≤ w.heap.size)
    (h1 : W'.cell? ⟨b, 0, none⟩ = some (.pointer (some ⟨c, 0, none⟩))) (h2 : W'.cell? ⟨c, 0, none⟩ = some v) :
    IsPart W'.heap.size W' (.iface (withT.getD q 0) (.pointer (some ⟨b, 0, none⟩))) (.wrap q p) :=
  ⟨hq, b, c, v, cell_lt h1, cell_lt h2, rfl, h1, h2, hp.below (hb.mono hB) (Nat.le_trans hB hb.size)⟩
set_option maxRecDepth 100000 in
set_option maxHeartbeats 4000000 in
theorem Around_any {B : Nat} {w : World} (hB : B ≤ w.heap.size) {p : PD} {v : Value} (h : IsPart B w v p) (hs : p.steps ≤ 1000000) (x : W) (hm : x.mask < 65536) (hT : Tabs w) :
    Calls Tryz.prog 11 #[v, .agg x.vals] w (AroundPost p x w) := by
  have hcan := can_lt h
  obtain ⟨y, hy, ht⟩ := h.iface
  have hp := Lib.hid h
  have hT' := Lib.hid hT
  subst hy
  clear h hT
  unfold W.vals
  cases hok : x.ok with
  | false =>
    have he : aroundE p x = 70 := by unfold aroundE; rw [if_neg (by rw [hok]; exact Bool.false_ne_true)]
    have hchk := fun W hW => Check_any x.kind x.mask x.num x.text W (hT'.out.below hW)
    have hwe : wrapErr x.kind x.mask x.num x.text = 70 := by unfold wrapErr; rw [show wrapOK x.kind x.mask x.num x.text = false from hok]; rfl
    rw [hwe] at hchk
    have HC := Lib.hid hchk
    have HE := Lib.hid he
    clear hok hchk hwe he ht
    generalize p.type = t at *
    go_enter Tryz.func11, Tryz.ntmps11
    go_wp2_with (go_at_call 37; refine (HC.out _ ((Below.refl _ _).alloc (Nat.le_refl _) _)).mono ?_; rintro e w1 ⟨rfl, hb1⟩)
    go_ret2
    refine ⟨_, by rw [HE.out]; rfl, ((Below.refl _ _).alloc (Nat.le_refl _) _).trans (hb1.mono (by simp)), fun h => ?_, fun _ => rfl⟩
    rw [HE.out] at h
    cases h
  | true =>
    have hml := ok_mask x hm hok
    by_cases h7 : x.kind = 7
    · have he : aroundE p x = 0 := by unfold aroundE; rw [if_pos hok, if_pos h7]
      have hpd : aroundP p x = .half := if_pos h7
      have hchk := fun W hW => Check_any x.kind x.mask x.num x.text W (hT'.out.below hW)
      have hwe : wrapErr x.kind x.mask x.num x.text = 0 := by unfold wrapErr; rw [show wrapOK x.kind x.mask x.num x.text = true from hok]; rfl
      rw [hwe] at hchk
      have HC := Lib.hid hchk
      have HF := Lib.hid (And.intro he hpd)
      have h7b : ((x.kind : Int) == 7) = true := by rw [h7]; rfl
      clear hok hchk hwe he hpd ht h7
      generalize p.type = t at *
      go_enter Tryz.func11, Tryz.ntmps11
      go_wp2_with (go_at_call 37; refine (HC.out _ ((Below.refl _ _).alloc (Nat.le_refl _) _)).mono ?_; rintro e w1 ⟨rfl, hb1⟩; obtain ⟨hc1, hf1⟩ := bcell hb1; have hz1 := hb1.size; simp at hz1)
      go_ret2
      refine ⟨_, by rw [HF.out.1]; rfl, ((Below.refl _ _).alloc (Nat.le_refl _) _).trans (hb1.mono (by simp)), fun h => ?_, fun h => absurd HF.out.1 h⟩
      rw [HF.out.2]
      rfl
    · by_cases h16 : 16 ≤ p.steps
      · have he : aroundE p x = 4 := by unfold aroundE; rw [if_pos hok, if_neg h7, if_pos h16]
        have hchk := fun W hW => Check_any x.kind x.mask x.num x.text W (hT'.out.below hW)
        have hwe : wrapErr x.kind x.mask x.num x.text = 0 := by unfold wrapErr; rw [show wrapOK x.kind x.mask x.num x.text = true from hok]; rfl
        rw [hwe] at hchk
        have HC := Lib.hid hchk
        have hin := fun W hW => Inner_part (Nat.le_refl _) (hp.out.below (B' := World.heap W |>.size) hW (by have := Below.size hW; omega)) hs
        have HI := Lib.hid hin
        have HE := Lib.hid he
        have h7b : ((x.kind : Int) == 7) = false := by simp; omega
        have h16b : (16 ≤ (p.steps : Int)) := by omega
        clear hok hchk hwe hin he h7 h16 ht
        generalize p.type = t at *
        generalize p.steps = st at *
        go_enter Tryz.func11, Tryz.ntmps11
        go_wp2_with (first
          | (go_at_call 37; refine (HC.out _ ((Below.refl _ _).alloc (Nat.le_refl _) _)).mono ?_; rintro e w1 ⟨rfl, hb1⟩; obtain ⟨hc1, hf1⟩ := bcell hb1; have hz1 := hb1.size; simp at hz1)
          | (go_at_call 14; refine (HI.out _ ((((Below.refl _ _).alloc (Nat.le_refl _) _).trans (hb1.mono (by simp))).mono hB)).mono ?_; rintro e w2 ⟨u, rfl, hb2⟩))
        go_ret2
        refine ⟨_, by rw [HE.out]; rfl, ((((Below.refl _ _).alloc (Nat.le_refl _) _).trans (hb1.mono (by simp))).trans (hb2.mono (by omega))), fun h => ?_, fun _ => rfl⟩
        rw [HE.out] at h
        cases h
      · have he : aroundE p x = 0 := by unfold aroundE; rw [if_pos hok, if_neg h7, if_neg h16]
        have hpd : aroundP p x = .wrap (sayN p.can x.kind x.mask) p := if_neg h7
        have hlt := sayN_lt p.can x.kind x.mask hcan hml
        have hchk := fun W hW => Check_any x.kind x.mask x.num x.text W (hT'.out.below hW)
        have hwe : wrapErr x.kind x.mask x.num x.text = 0 := by unfold wrapErr; rw [show wrapOK x.kind x.mask x.num x.text = true from hok]; rfl
        rw [hwe] at hchk
        have HC := Lib.hid hchk
        have hcanc := fun W => Can_tab ht y W
        have HN := Lib.hid hcanc
        have hab := fun c W => about_any _ hlt c W
        have HA := Lib.hid hab
        have hsa := fun W => says_any p.can x.kind x.mask x.num x.text hcan hml W
        have HS := Lib.hid hsa
        have hin := fun W hW => Inner_part (Nat.le_refl _) (hp.out.below (B' := World.heap W |>.size) hW (by have := Below.size hW; omega)) hs
        have HI := Lib.hid hin
        have HF := Lib.hid (And.intro he (And.intro hpd hok))
        have h7b : ((x.kind : Int) == 7) = false := by simp; omega
        have h16b : ¬ (16 ≤ (p.steps : Int)) := by omega
        clear hok hchk hwe hcanc hab hsa hin he hpd h7 h16 ht
        generalize sayN p.can x.kind x.mask = q at *
        generalize p.type = t at *
        generalize p.steps = st at *
        go_enter Tryz.func11, Tryz.ntmps11
        go_wp2_with (first
          | (go_at_call 37; refine (HC.out _ ((Below.refl _ _).alloc (Nat.le_refl _) _)).mono ?_; rintro e w1 ⟨rfl, hb1⟩; obtain ⟨hc1, hf1⟩ := bcell hb1; have hz1 := hb1.size; simp at hz1)
          | (go_at_call 14; refine (HI.out _ ((((Below.refl _ _).alloc (Nat.le_refl _) _).trans (hb1.mono (by simp))).mono hB)).mono ?_; rintro e w2 ⟨u, rfl, hb2⟩))
        have hz2 := hb2.size
        have k0 : w2.cell? ⟨w.heap.size, 0, none⟩ = some (.int .u8 x.kind) := by
          rw [hb2.cell (by exact hz1), hb1.cell (by simp)]; simp
        have k1 : w2.cell? ⟨w.heap.size, 1, none⟩ = some (.int .u16 x.mask) := by
          rw [hb2.cell (by exact hz1), hb1.cell (by simp)]; simp
        have k2 : w2.cell? ⟨w.heap.size, 2, none⟩ = some (.int .i64 x.num) := by
          rw [hb2.cell (by exact hz1), hb1.cell (by simp)]; simp
        have k3 : w2.cell? ⟨w.heap.size, 3, none⟩ = some (.string x.text) := by
          rw [hb2.cell (by exact hz1), hb1.cell (by simp)]; simp
        have HB : Hid (Below w.heap.size w w2) := Lib.hid ((((Below.refl _ _).alloc (Nat.le_refl _) _).trans (hb1.mono (by simp))).trans (hb2.mono (by omega)))
        clear hc1 hf1 hb1 hb2
        have hlt2 : w.heap.size < w2.heap.size := by omega
        go_region_held3 (fun W' : World => W'.cell? ⟨w.heap.size, 0, none⟩ = some (.int .u8 x.kind) ∧ W'.cell? ⟨w.heap.size, 1, none⟩ = some (.int .u16 x.mask) ∧ W'.cell? ⟨w.heap.size, 2, none⟩ = some (.int .i64 x.num) ∧ W'.cell? ⟨w.heap.size, 3, none⟩ = some (.string x.text)) (first | exact ⟨k0, k1, k2, k3⟩ | exact ⟨(World.cell?_alloc_lt _ _ _ hlt2).trans k0, (World.cell?_alloc_lt _ _ _ hlt2).trans k1, (World.cell?_alloc_lt _ _ _ hlt2).trans k2, (World.cell?_alloc_lt _ _ _ hlt2).trans k3⟩ | exact ⟨j0, j1, j2, j3⟩ | exact ⟨(World.cell?_alloc_lt _ _ _ hlt3).trans j0, (World.cell?_alloc_lt _ _ _ hlt3).trans j1, (World.cell?_alloc_lt _ _ _ hlt3).trans j2, (World.cell?_alloc_lt _ _ _ hlt3).trans j3⟩ | exact ⟨(World.cell?_alloc_lt _ _ _ (lt_alloc hlt3)).trans ((World.cell?_alloc_lt _ _ _ hlt3).trans j0), (World.cell?_alloc_lt _ _ _ (lt_alloc hlt3)).trans ((World.cell?_alloc_lt _ _ _ hlt3).trans j1), (World.cell?_alloc_lt _ _ _ (lt_alloc hlt3)).trans ((World.cell?_alloc_lt _ _ _ hlt3).trans j2), (World.cell?_alloc_lt _ _ _ (lt_alloc hlt3)).trans ((World.cell?_alloc_lt _ _ _ hlt3).trans j3)⟩) (first
          | (go_at_call 15; refine (HN.out _).mono ?_; rintro e w3 ⟨rfl, rfl⟩)
          | (go_at_call 39; refine (HS.out _).mono ?_; rintro e w3 ⟨rfl, hb3⟩; (first | (have hbX := below_box hb3) | (have hbX := below_drew hb3)); have j0 := (hbX.cell (p := ⟨w.heap.size, 0, none⟩) hlt2).trans k0; have j1 := (hbX.cell (p := ⟨w.heap.size, 1, none⟩) hlt2).trans k1; have j2 := (hbX.cell (p := ⟨w.heap.size, 2, none⟩) hlt2).trans k2; have j3 := (hbX.cell (p := ⟨w.heap.size, 3, none⟩) hlt2).trans k3; have hlt3 : w.heap.size < w3.heap.size := Nat.lt_of_lt_of_le hlt2 hbX.size)
          | (go_at_call 38; refine (HA.out _ _).mono ?_; rintro e w4 ⟨cs, T, rfl, rfl, hcs⟩))
        all_goals
          go_wp2
          go_ret2
        · have hBB : Below w.heap.size w (w3.alloc (.cells cs T)) := ((HB.out.trans (hbX.mono (by omega))).alloc (by omega) _)
          refine ⟨_, by rw [HF.out.1]; rfl, hBB, fun _ => ?_, fun h => absurd HF.out.1 h⟩
          rw [HF.out.2.1]
          refine isPart_new hp.out hlt hBB hB (c := w2.heap.size) ?_ ?_
          · rw [World.cell?_alloc_at _ _ _ _ rfl]; exact hcs
          · have hl := hb3.size
            simp at hl
            rw [World.cell?_alloc_lt _ _ _ (by show w2.heap.size < w3.heap.size; omega), hb3.cell (by simp)]
            simp
        · have hBB : Below w.heap.size w (w3.alloc (.cells cs T)) := ((HB.out.trans (hbX.mono (by omega))).alloc (by omega) _)
          refine ⟨_, by rw [HF.out.1]; rfl, hBB, fun _ => ?_, fun h => absurd HF.out.1 h⟩
          rw [HF.out.2.1]
          refine isPart_new hp.out hlt hBB hB (c := w2.heap.size) ?_ ?_
          · rw [World.cell?_alloc_at _ _ _ _ rfl]; exact hcs
          · have hl := hb3.size
            simp at hl
            rw [World.cell?_alloc_lt _ _ _ (by show w2.heap.size < w3.heap.size; omega), hb3.cell (by simp)]
            simp
        · refine ⟨_, by rw [HF.out.1]; rfl, ((HB.out.trans (hbX.mono (by omega))).alloc (by omega) _).alloc (by simp; omega) _, fun _ => ?_, fun h => absurd HF.out.1 h⟩
          rw [HF.out.2.1]
          refine isPart_new hp.out hlt (((HB.out.trans (hbX.mono (by omega))).alloc (by omega) _).alloc (by simp; omega) _) hB (c := w3.heap.size) ?_ ?_
          · rw [World.cell?_alloc_at _ _ _ _ (by simp)]; exact hcs
          · rw [World.cell?_alloc_lt _ _ _ (by simp)]
            simp
end Go.Proofs.YtbhcfopokdcplaaGreatDoor
