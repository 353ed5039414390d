/-
  wrap.All: wrappers about a part, the innermost first. Condition: utf8's two tables lie as the library lays them.
-/
import Derived.Test.YtbhcfopokdcplaaGreatDoorK
namespace Go.Proofs.YtbhcfopokdcplaaGreatDoor
open Go.RowKit
/-- Wrappers put about a part, one by one: the error, and what comes out where there is none. -/
def allGo : PD → List W → Int × PD
  | p, [] => (0, p)
  | p, x :: ws => if aroundE p x = 0 then allGo (aroundP p x) ws else (aroundE p x, p)
/-- What All's error is. -/
def allE (p : PD) (ws : List W) : Int := if checksErr ws = 0 then (allGo p ws).1 else checksErr ws
/-- What All answers where there is no error. -/
def allP (p : PD) (ws : List W) : PD := (allGo p ws).2
def AllPost (p : PD) (ws : List W) (w : World) (e : Ending) (w' : World) : Prop :=
  ∃ v, e = .returned (.tuple #[v, .int .i64 (allE p ws)]) ∧ Below w.heap.size w w' ∧ (allE p ws = 0 → IsPart w'.heap.size w' v (allP p ws)) ∧ (allE p ws ≠ 0 → v = .nilIface)
theorem aroundP_steps (p : PD) (x : W) : (aroundP p x).steps ≤ p.steps + 1 := by
  unfold aroundP
  split
  · exact Nat.zero_le _
  · exact Nat.le_refl _
theorem aroundE_cases (p : PD) (x : W) : aroundE p x = 0 ∨ aroundE p x = 4 ∨ aroundE p x = 70 := by
  unfold aroundE
  repeat' split
  all_goals simp
theorem allGo_cons (p : PD) (x : W) (ws : List W) : allGo p (x :: ws) = if aroundE p x = 0 then allGo (aroundP p x) ws else (aroundE p x, p) := rfl
set_option maxRecDepth 100000 in
set_option maxHeartbeats 4000000 in
theorem All_any (cap B : Nat) (A : Option Addr) (ws : List W) {w : World} (hB : B ≤ w.heap.size) {p : PD} {v : Value} (h : IsPart B w v p) (hs : p.steps ≤ 1000) (hT : Tabs w) (hA : WrapsAt B w A ws) (hw : ∀ x ∈ ws, x.mask < 65536) :
    Calls Tryz.prog 64 #[v, .slice A ws.length cap] w (AllPost p ws w) := by
  have hc := checks_any cap B A ws w hB hT hA
  have hlen := fun h => (checks_zero (ws := ws) h).1
  obtain ⟨y, hy, ht⟩ := h.iface
  have hp := Lib.hid h
  have hT' := Lib.hid hT
  have hA' := Lib.hid hA
  have hw' := Lib.hid hw
  subst hy
  clear h hT hA ht hw
  generalize p.type = t at *
  rcases checks_cases ws with h0 | h0 | h0
  · have he : allE p ws = (allGo p ws).1 := if_pos h0
    have hlen' : ws.length ≤ 16 := hlen h0
    rw [h0] at hc
    have HC := Lib.hid hc
    have HE := Lib.hid he
    clear hc he h0 hlen
    go_enter Tryz.func64, Tryz.ntmps64
    go_wp2_with (go_at_call 40; refine HC.out.mono ?_; rintro e w1 ⟨rfl, hb1⟩)
    go_loopg [0, 20] ws.length (fun gk u i wr => ∃ (k : Nat) (q : PD), k + gk = ws.length ∧ i = .int .i64 k ∧ IsPart wr.heap.size wr u q ∧ q.steps ≤ p.steps + k ∧ allGo p ws = allGo q (ws.drop k) ∧ Below w.heap.size w wr)
    case atStart => exact ⟨0, p, by simp, rfl, hp.out.below (hb1.mono hB) (by have := hb1.size; omega), by omega, rfl, hb1⟩
    case round =>
      obtain ⟨k, q, hk, rfl, hq, hqs, hgo, hb⟩ := hrel
      have HK := Lib.hid hk
      have HG := Lib.hid hgo
      have hkl : k ≤ ws.length := by omega
      have HB := Lib.hid hb
      have hz := hb.size
      clear hk hgo hb1
      by_cases hlt : k < ws.length
      · have hx : ws[k]? = some ws[k] := List.getElem?_eq_getElem hlt
        have hdrop : ws.drop k = ws[k] :: ws.drop (k + 1) := List.drop_eq_getElem_cons hlt
        obtain ⟨b, o, rfl, hlb, c0, c1, c2, c3⟩ := (hA'.out.below (hb.mono hB) (Nat.le_refl _)) k _ hx
        have hmk := hw'.out ws[k] (List.getElem_mem hlt)
        have HX := Lib.hid hdrop
        clear hx hdrop hb
        generalize ws[k] = x at *
        have har := fun (O : Obj) => Around_any (w := wr.alloc O) (B := wr.heap.size) (by simp) (hq.below ((Below.refl _ _).alloc (Nat.le_refl _) O) (Nat.le_refl _)) (by omega) x hmk (hT'.out.below ((HB.out.alloc hz O)))
        have HR := Lib.hid har
        clear har
        unfold W.vals at HR
        rcases aroundE_cases q x with he | he | he
        · have hgo2 : allGo p ws = allGo (aroundP q x) (ws.drop (k + 1)) := by rw [HG.out, HX.out, allGo_cons, if_pos he]
          have HG2 := Lib.hid hgo2
          clear hgo2
          have HE2 := Lib.hid he
          clear he
          go_wp2_with (go_at_call 11; refine (HR.out _).mono ?_; rintro e w2 ⟨u2, rfl, hb2, hok2, hno2⟩; have hok3 := hok2 HE2.out; have hee := HE2.out; rw [hee]; clear hee hok2 hno2)
          have hk1 := HK.out
          go_roundg (gk - 1)
          case measure => omega
          case rel => exact ⟨k + 1, aroundP q x, by omega, by go_num, hok3, by have := aroundP_steps q x; omega, HG2.out, (HB.out.alloc hz _).trans (hb2.mono (by simp; omega))⟩
        all_goals
          have hgo2 : allE p ws = aroundE q x := by rw [HE.out, HG.out, HX.out, allGo_cons, if_neg (by rw [he]; decide)]
          have hne : allE p ws ≠ 0 := by rw [hgo2, he]; decide
          rw [he] at hgo2
          have HG2 := Lib.hid (And.intro hgo2 hne)
          have HE2 := Lib.hid he
          clear hgo2 hne he
          go_wp2_with (go_at_call 11; refine (HR.out _).mono ?_; rintro e w2 ⟨u2, rfl, hb2, _, hno2⟩; have hee := HE2.out; rw [hee]; clear hee hno2)
          go_ret2
          exact ⟨_, by rw [HG2.out.1]; rfl, (HB.out.alloc hz _).trans (hb2.mono (by simp; omega)), fun h => absurd h HG2.out.2, fun _ => rfl⟩
      · have hkk : allGo p ws = (0, q) := by rw [HG.out, List.drop_of_length_le (by omega)]; rfl
        have h1 : allE p ws = 0 := by rw [HE.out, hkk]
        have h2 : allP p ws = q := by unfold allP; rw [hkk]
        have HF := Lib.hid (And.intro h1 h2)
        obtain ⟨x', rfl, _⟩ := hq.iface
        have HQ := Lib.hid hq
        clear hkk h1 h2 hb hq
        generalize q.type = t' at *
        go_wp2
        go_ret2
        refine ⟨_, by rw [HF.out.1]; rfl, HB.out, fun _ => ?_, fun h => absurd HF.out.1 h⟩
        rw [HF.out.2]
        exact HQ.out
  all_goals
    have he : allE p ws = checksErr ws := if_neg (by rw [h0]; decide)
    have hne : allE p ws ≠ 0 := by rw [he, h0]; decide
    rw [h0] at hc he
    have HC := Lib.hid hc
    have HE := Lib.hid (And.intro he hne)
    clear hc he hne h0 hlen
    go_enter Tryz.func64, Tryz.ntmps64
    go_wp2_with (go_at_call 40; refine HC.out.mono ?_; rintro e w1 ⟨rfl, hb1⟩)
    go_ret2
    exact ⟨_, by rw [HE.out.1]; rfl, hb1, fun h => absurd h HE.out.2, fun _ => rfl⟩
end Go.Proofs.YtbhcfopokdcplaaGreatDoor
