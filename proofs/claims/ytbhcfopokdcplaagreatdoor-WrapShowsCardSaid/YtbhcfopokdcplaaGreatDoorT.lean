/-
  Law 07's plain side: the rows of wrappers, a part behind an append to such a row, what the loop keeps. No conditions.
-/
import Derived.Test.YtbhcfopokdcplaaGreatDoorS
namespace Go.Proofs.YtbhcfopokdcplaaGreatDoor
open Go.RowKit
def W.cells (x : W) : List Value := [.int .u8 x.kind, .int .u16 x.mask, .int .i64 x.num, .string x.text]
def flat : List W → List Value
  | [] => []
  | x :: ws => x.cells ++ flat ws
theorem flat_append (a b : List W) : flat (a ++ b) = flat a ++ flat b := by
  induction a with
  | nil => rfl
  | cons x a ih => simp [flat, ih]
theorem flat_length (a : List W) : (flat a).length = a.length * 4 := by
  induction a with
  | nil => rfl
  | cons x a ih => simp [flat, ih, W.cells]; omega
theorem flat_one (x : W) : flat [x] = x.cells := by simp [flat]
theorem cells_one (x : W) : ∀ u ∈ x.cells, u.oneCell' = true := by
  intro u hu
  simp [W.cells] at hu
  rcases hu with rfl | rfl | rfl | rfl <;> rfl
theorem flat_get (a : List W) : ∀ (i : Nat) (x : W) (q : Nat), a[i]? = some x → q < 4 → (flat a)[i * 4 + q]? = x.cells[q]? := by
  induction a with
  | nil => intro i x q h; simp at h
  | cons y a ih =>
    intro i x q h hq
    rcases i with _ | i
    · simp at h
      subst h
      simp only [flat, Nat.zero_mul, Nat.zero_add]
      rw [List.getElem?_append_left (by simpa [W.cells] using hq)]
    · simp at h
      simp only [flat]
      rw [List.getElem?_append_right (by simp [W.cells]; omega)]
      have := ih i x q h hq
      rw [← this]
      congr 1
      simp [W.cells]
      omega
/-- An owned row of wrappers, as the functions over wrappers take it. -/
theorem own_wraps {base n : Nat} {w : World} {v : Value} {ws : List W} (h : w.ownsRow base 40 4 v n (flat ws)) (hn : n = ws.length) : ∃ A c, v = .slice A ws.length c ∧ WrapsAt w.heap.size w A ws := by
  subst hn
  rcases h.2 with ⟨rfl, h0⟩ | ⟨g, cap, cur, rfl, hb, hg, _⟩
  · refine ⟨none, 0, by rw [h0], ?_⟩
    intro i x hx
    rw [List.eq_nil_of_length_eq_zero h0] at hx
    simp at hx
  · refine ⟨_, _, rfl, ?_⟩
    intro i x hx
    have hc := h.cells (g := g) rfl
    have hlt := h.lt g rfl
    refine ⟨g, 0, rfl, hlt.2, ?_, ?_, ?_, ?_⟩
    · have := hc (i * 4 + 0) _ (flat_get ws i x 0 hx (by omega))
      rw [addr_add] at this
      simpa using this
    · have := hc (i * 4 + 1) _ (flat_get ws i x 1 hx (by omega))
      rw [addr_add] at this
      simpa [Nat.add_assoc] using this
    · have := hc (i * 4 + 2) _ (flat_get ws i x 2 hx (by omega))
      rw [addr_add] at this
      simpa [Nat.add_assoc] using this
    · have := hc (i * 4 + 3) _ (flat_get ws i x 3 hx (by omega))
      rw [addr_add] at this
      simpa [Nat.add_assoc] using this
/-- A block whose first two cells are a wrapper's. -/
def RowHead (w : World) (k : Nat) : Prop := (∃ x, w.cell? ⟨k, 0, none⟩ = some (.int .u8 x)) ∧ ∃ y, w.cell? ⟨k, 1, none⟩ = some (.int .u16 y)
theorem own_head {base n : Nat} {w : World} {v : Value} {ws : List W} (h : w.ownsRow base 40 4 v n (flat ws)) (hn : n = ws.length) (hne : 0 < n) : ∀ k, v.ownBlock = some k → RowHead w k := by
  intro k hk
  have hc := h.cells hk
  subst hn
  have hx : ws[0]? = some ws[0] := List.getElem?_eq_getElem hne
  constructor
  · have := hc (0 * 4 + 0) _ (flat_get ws 0 _ 0 hx (by omega))
    rw [addr_add] at this
    exact ⟨_, by simpa using this⟩
  · have := hc (0 * 4 + 1) _ (flat_get ws 0 _ 1 hx (by omega))
    rw [addr_add] at this
    exact ⟨_, by simpa using this⟩
/-- A part stays behind what writes a row of wrappers alone. -/
theorem IsPart.grown {B : Nat} {w w' : World} {row : Option Nat} (hg : w.grownBy w' row) (hr : ∀ k, row = some k → RowHead w k) (hB : B ≤ w.heap.size) : ∀ {p : PD} {v : Value}, IsPart B w v p → IsPart B w' v p
  | .kind k, v, h => by
    obtain ⟨h1, h2, b, s, hlt, hv, hc0, hc1⟩ := h
    have hne : some b ≠ row := by
      intro e
      obtain ⟨_, y, hy⟩ := hr b e.symm
      rw [hy] at hc1
      cases hc1
    have hk : ∀ i, w'.cell? ⟨b, i, none⟩ = w.cell? ⟨b, i, none⟩ := fun i => World.cell?_of_block (hg.block b (by omega) hne)
    exact ⟨h1, h2, b, s, hlt, hv, (hk 0).trans hc0, (hk 1).trans hc1⟩
  | .half, v, h => h
  | .wrap m p, v, h => by
    obtain ⟨hm, b, c, u, hlb, hlc, hv, hc0, hc1, hu⟩ := h
    have hne : some b ≠ row := by
      intro e
      obtain ⟨⟨y, hy⟩, _⟩ := hr b e.symm
      rw [hy] at hc0
      cases hc0
    have hnc : some c ≠ row := by
      intro e
      obtain ⟨⟨y, hy⟩, _⟩ := hr c e.symm
      obtain ⟨z, hz, _⟩ := hu.iface
      rw [hy, hz] at hc1
      cases hc1
    exact ⟨hm, b, c, u, hlb, hlc, hv, (World.cell?_of_block (w := w) (hg.block b (by omega) hne)).trans hc0, (World.cell?_of_block (w := w) (hg.block c (by omega) hnc)).trans hc1, IsPart.grown hg hr hB hu⟩
theorem small_mask (a b c : Nat) : (smallW a b c).mask < 64 := by
  unfold smallW
  dsimp only
  split <;> omega
theorem small_kind (a b c : Nat) : 1 ≤ (smallW a b c).kind ∧ (smallW a b c).kind ≤ 7 := by
  show 1 ≤ kindS a ∧ kindS a ≤ 7
  unfold kindS
  omega
theorem andNot_zero (m : Nat) (h : m < 64) : bits .andNot .u16 (m : Int) 63 = 0 := by
  have hh : ∀ m : Fin 64, bits .andNot .u16 (m.val : Nat) 63 = 0 := by decide +kernel
  exact hh ⟨m, h⟩
theorem x_text : wText ⟨#[120]⟩ = true := by decide +kernel
theorem e_text : wText ⟨#[]⟩ = true := by decide +kernel
theorem small_ok (a b c : Nat) (hc : c < 256) : (smallW a b c).ok = true := by
  have hm := small_mask a b c
  have hk := small_kind a b c
  unfold W.ok
  have h := andNot_zero _ hm
  generalize hx : smallW a b c = x at *
  have e1 : x.kind = kindS a := by rw [← hx]; rfl
  have e2 : x.mask = if kindS a = 1 ∨ kindS a = 2 then b % 64 else 0 := by rw [← hx]; rfl
  have e3 : x.num = if kindS a = 3 ∨ kindS a = 5 then (c : Int) else 0 := by rw [← hx]; rfl
  have e4 : x.text = if kindS a = 6 then ⟨#[120]⟩ else ⟨#[]⟩ := by rw [← hx]; rfl
  rw [← e1] at e2 e3 e4
  clear e1 hx
  have h7 : x.kind = 1 ∨ x.kind = 2 ∨ x.kind = 3 ∨ x.kind = 4 ∨ x.kind = 5 ∨ x.kind = 6 ∨ x.kind = 7 := by omega
  rcases h7 with h7 | h7 | h7 | h7 | h7 | h7 | h7 <;> rw [h7] at e2 e3 e4 <;> simp at e2 e3 e4 <;> unfold wrapOK <;> rw [h7, e3, e4] <;> simp [x_text, e_text, e2] <;> first | omega | (rw [e2] at h; simpa using h)
theorem with_type (m : Nat) (h : m < 64) : (withT.getD m 0, m) ∈ tabT := by
  have hh : ∀ k : Fin 64, (withT.getD k.val 0, k.val) ∈ tabT := by decide +kernel
  exact hh ⟨m, h⟩
theorem half_unwrap : kindT.contains 109 = false := by decide +kernel
/-- What lies about a part unwraps. -/
theorem around_unwrap {B : Nat} {w : World} {v : Value} (p : PD) (x : W) (h : IsPart B w v (aroundP p x)) : kindT.contains (aroundP p x).type = false := by
  unfold aroundP at *
  split at h
  · rename_i h7; rw [if_pos h7]; exact half_unwrap
  · rename_i h7
    rw [if_neg h7]
    obtain ⟨hm, _⟩ := h
    exact with_unwrap _ hm
theorem num_pos (p : PD) (m : Nat) : 0 < (PD.wrap m p).num := by
  simp only [PD.num]
  split <;> omega
/-- What Around's part can. -/
theorem around_can (p : PD) (x : W) : (aroundP p x).can = sayN p.can x.kind x.mask := by
  unfold aroundP
  split
  · rename_i h; simp [PD.can, sayN, h]
  · rfl
theorem around_num (p : PD) (x : W) : ((aroundP p x).num == 0) = decide (x.kind = 7) := by
  unfold aroundP
  split
  · rename_i h; simp [PD.num, h]
  · rename_i h
    have := num_pos p (sayN p.can x.kind x.mask)
    simp only [h, decide_false]
    simp
    omega
theorem around_steps (p : PD) (x : W) : (aroundP p x).steps = if x.kind = 7 then 0 else p.steps + 1 := by
  unfold aroundP
  split <;> simp [PD.steps]
theorem bits_and_le (m k : Nat) : m &&& k ≤ m := Nat.and_le_left
theorem sub_and (m k : Nat) (hm : m < 64) (hk : k < 64) : m &&& (63 ^^^ k) = m - (m &&& k) := by
  have h : ∀ m k : Fin 64, m.val &&& (63 ^^^ k.val) = m.val - (m.val &&& k.val) := by decide +kernel
  exact h ⟨m, hm⟩ ⟨k, hk⟩
end Go.Proofs.YtbhcfopokdcplaaGreatDoor
