/-
  A node's numbers and texts; part.check of a node that may be. Condition: utf8's two tables lie as the library lays them.
-/
import Derived.Test.YtbhcfopokdcplaaGreatDoorL
namespace Go.Proofs.YtbhcfopokdcplaaGreatDoor
open Go.RowKit
/-- Numbers that lie in memory behind a slice's address, below block B. -/
def IntsAt (B : Nat) (w : World) (A : Option Addr) (xs : List Int) : Prop :=
  ∀ i x, xs[i]? = some x → ∃ b o, A = some ⟨b, o, none⟩ ∧ b < B ∧ w.cell? ⟨b, o + i, none⟩ = some (.int .i64 x)
theorem IntsAt.below {B B' : Nat} {w w' : World} {A : Option Addr} {xs : List Int} (h : IntsAt B w A xs) (hb : Below B w w') (hB : B ≤ B') : IntsAt B' w' A xs := by
  intro i x hx
  obtain ⟨b, o, hA, hlt, h0⟩ := h i x hx
  exact ⟨b, o, hA, by omega, (hb.cell (by exact hlt)).trans h0⟩
set_option maxRecDepth 100000 in
set_option maxHeartbeats 4000000 in
theorem sides_fine (cap B : Nat) (A : Option Addr) (xs : List Int) (w : World) (hB : B ≤ w.heap.size) (hA : IntsAt B w A xs) (hx : ∀ x ∈ xs, 0 ≤ x ∧ x ≤ 16384) (hl : xs.length ≤ 1000) :
    Calls Tryz.prog 62 #[.slice A xs.length cap] w fun e w' => e = .returned (.bool true) ∧ Below w.heap.size w w' := by
  have HA := Lib.hid hA
  have HX := Lib.hid hx
  clear hA hx
  go_enter Tryz.func62, Tryz.ntmps62
  go_wp2
  go_loopg [7] xs.length (fun gk i wr => ∃ k : Nat, k + gk = xs.length ∧ i = .int .i64 k ∧ Below w.heap.size w wr)
  case atStart => exact ⟨0, by simp, rfl, Below.refl _ _⟩
  case round =>
    obtain ⟨k, hk, rfl, hb⟩ := hrel
    have HK := Lib.hid hk
    have hkl : k ≤ xs.length := by omega
    have HB := Lib.hid hb
    clear hk
    by_cases hlt : k < xs.length
    · have hx : xs[k]? = some xs[k] := List.getElem?_eq_getElem hlt
      obtain ⟨b, o, rfl, hlb, c0⟩ := (HA.out.below (hb.mono hB) (Nat.le_refl _)) k _ hx
      obtain ⟨g1, g2⟩ := HX.out xs[k] (List.getElem_mem hlt)
      clear hx hb
      generalize xs[k] = x at *
      go_wp2
      have hk1 := HK.out
      go_roundg (gk - 1)
      case measure => omega
      case rel => exact ⟨k + 1, by omega, by go_num, HB.out⟩
    · clear hb
      go_wp2
      go_ret
      exact ⟨rfl, HB.out⟩
/-- A text may be, of at most so many bytes. -/
def tText (s : ByteArray) (most : Int) : Bool := decide ((s.size : Int) ≤ most) && Lib.validD s.data.toList
set_option maxRecDepth 100000 in
theorem ptext_fine (s : ByteArray) (most : Int) (hm : most ≤ 100000) (w : World) (hT : Tabs w) (h : tText s most = true) : Calls Tryz.prog 61 #[.string s, .int .i64 most] w fun e w' => e = .returned (.bool true) ∧ Below w.heap.size w w' := by
  unfold tText at h
  rw [Bool.and_eq_true] at h
  obtain ⟨h1, h2⟩ := h
  have hs := of_decide_eq_true h1
  have cV := Tryz.utf8_ValidString s w (by omega) hT
  rw [h2] at cV
  have CV := Lib.hid cV
  clear cV hT h2 h1
  have hd : decide ((s.size : Int) ≤ most) = true := decide_eq_true hs
  go_enter Tryz.func61, Tryz.ntmps61
  go_wp2_with (go_at_call 75; refine CV.out.mono ?_; rintro e w' ⟨rfl, hb⟩)
  go_ret
  exact ⟨rfl, hb⟩
/-- What a node is told, but for its lists. -/
structure N where
  kind : Nat
  name : ByteArray
  cls : ByteArray
  text : ByteArray
  minW : Int
  minH : Int
  maxW : Int
  maxH : Int
  grow : Int
  order : Int
  column : Bool
  columns : Int
  span : Int
  gap : Int
  offX : Int
  offY : Int
  hidden : Bool
/-- A node's cells. -/
def N.vals (n : N) (ws ks : Value) : Array Value :=
  #[.int .u8 n.kind, .string n.name, .string n.cls, .string n.text, .int .i64 n.minW, .int .i64 n.minH, .int .i64 n.maxW, .int .i64 n.maxH, .int .i64 n.grow, .int .i64 n.order, .bool n.column, .int .i64 n.columns, .int .i64 n.span, .int .i64 n.gap, .int .i64 n.offX, .int .i64 n.offY, .bool n.hidden, ws, ks]
/-- It may be, but for its lists. -/
def N.fine (n : N) : Prop :=
  (1 ≤ n.kind ∧ n.kind ≤ 10) ∧ (tText n.name 64 = true ∧ tText n.cls 64 = true ∧ tText n.text 65536 = true) ∧
  ((0 ≤ n.minW ∧ n.minW ≤ 16384) ∧ (0 ≤ n.minH ∧ n.minH ≤ 16384) ∧ (0 ≤ n.maxW ∧ n.maxW ≤ 16384) ∧ (0 ≤ n.maxH ∧ n.maxH ≤ 16384) ∧ (0 ≤ n.grow ∧ n.grow ≤ 16384) ∧ (0 ≤ n.gap ∧ n.gap ≤ 16384)) ∧
  ((n.maxW = 0 ∨ n.minW ≤ n.maxW) ∧ (n.maxH = 0 ∨ n.minH ≤ n.maxH)) ∧ (-1 ≤ n.order ∧ n.order ≤ 1048576) ∧
  ((0 ≤ n.columns ∧ n.columns ≤ 64) ∧ (0 ≤ n.span ∧ n.span ≤ 64)) ∧ ((0 ≤ n.offX ∧ n.offX ≤ 1048576) ∧ (0 ≤ n.offY ∧ n.offY ≤ 1048576))
set_option maxRecDepth 100000 in
theorem most_fine (a b : Int) (h : b = 0 ∨ a ≤ b) (w : World) : Calls Tryz.prog 63 #[.int .i64 a, .int .i64 b] w fun e w' => e = .returned (.bool true) ∧ w = w' := by
  by_cases h0 : b = 0
  · have h0b : (b == 0) = true := by rw [h0]; rfl
    go_enter Tryz.func63, Tryz.ntmps63
    go_wp2
    go_ret
    exact ⟨rfl, rfl⟩
  · have h0b : (b == 0) = false := by simpa using h0
    have h1 : a ≤ b := by omega
    have h1b : decide (a ≤ b) = true := decide_eq_true h1
    clear h
    go_enter Tryz.func63, Tryz.ntmps63
    go_wp2
    go_ret
    exact ⟨rfl, rfl⟩
set_option maxRecDepth 100000 in
theorem from_fine (a l h : Int) (h1 : l ≤ a) (h2 : a ≤ h) (w : World) : Calls Tryz.prog 60 #[.int .i64 a, .int .i64 l, .int .i64 h] w fun e w' => e = .returned (.bool true) ∧ w = w' := by
  go_enter Tryz.func60, Tryz.ntmps60
  go_wp2
  go_ret
  exact ⟨rfl, rfl⟩
end Go.Proofs.YtbhcfopokdcplaaGreatDoor
