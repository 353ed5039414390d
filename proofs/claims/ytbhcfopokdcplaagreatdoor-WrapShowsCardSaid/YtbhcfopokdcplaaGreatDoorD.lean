/-
  The parts: what they are (PD), where they lie (IsPart), what Kind answers of each. No conditions.
-/
import Derived.Test.YtbhcfopokdcplaaGreatDoorC
import Derived.BigQuiet
import Derived.Lib.Hide
namespace Go.Proofs.YtbhcfopokdcplaaGreatDoor
open Go.RowKit
set_option maxRecDepth 100000 in
theorem told_any (b : Nat) (k : Int) (s : ByteArray) (w : World) (h0 : w.cell? ⟨b, 0, none⟩ = some (.int .u8 k)) (h1 : w.cell? ⟨b, 1, none⟩ = some (.string s)) :
    Calls Tryz.prog 136 #[.pointer (some ⟨b, 0, none⟩)] w fun e w' => e = .returned (.tuple #[.int .u8 k, .string s]) ∧ Below w.heap.size w w' := by
  go_enter Tryz.func136, Tryz.ntmps136
  go_wp2
  go_quiet (fail)
  go_wp2
  go_ret2
  exact ⟨rfl, ⟨rfl, rfl, rfl, Nat.le_refl _, fun _ _ => rfl⟩⟩
set_option maxRecDepth 100000 in
theorem label_Kind (b : Nat) (k : Int) (s : ByteArray) (w : World) (h0 : w.cell? ⟨b, 0, none⟩ = some (.int .u8 k)) (h1 : w.cell? ⟨b, 1, none⟩ = some (.string s)) (hb : b < w.heap.size) :
    Calls Tryz.prog 130 #[.pointer (some ⟨b, 0, none⟩)] w fun e w' => e = .returned (.int .u8 k) ∧ Below w.heap.size w w' := by
  go_enter Tryz.func130, Tryz.ntmps130
  go_wp2_with (first | (go_at_call 136; refine (told_any b k s _ ((World.cell?_alloc_lt _ _ _ hb).trans h0) ((World.cell?_alloc_lt _ _ _ hb).trans h1)).mono ?_; rintro e w' ⟨rfl, hbl⟩) | go_in)
  go_ret
  exact ⟨rfl, ((Below.refl _ w).alloc (Nat.le_refl _) _).trans (hbl.mono (by simp))⟩
set_option maxRecDepth 100000 in
theorem button_Kind (b : Nat) (k : Int) (s : ByteArray) (w : World) (h0 : w.cell? ⟨b, 0, none⟩ = some (.int .u8 k)) (h1 : w.cell? ⟨b, 1, none⟩ = some (.string s)) (hb : b < w.heap.size) :
    Calls Tryz.prog 137 #[.pointer (some ⟨b, 0, none⟩)] w fun e w' => e = .returned (.int .u8 k) ∧ Below w.heap.size w w' := by
  go_enter Tryz.func137, Tryz.ntmps137
  go_wp2_with (first | (go_at_call 136; refine (told_any b k s _ ((World.cell?_alloc_lt _ _ _ hb).trans h0) ((World.cell?_alloc_lt _ _ _ hb).trans h1)).mono ?_; rintro e w' ⟨rfl, hbl⟩) | go_in)
  go_ret
  exact ⟨rfl, ((Below.refl _ w).alloc (Nat.le_refl _) _).trans (hbl.mono (by simp))⟩
set_option maxRecDepth 100000 in
theorem field_Kind (b : Nat) (k : Int) (s : ByteArray) (w : World) (h0 : w.cell? ⟨b, 0, none⟩ = some (.int .u8 k)) (h1 : w.cell? ⟨b, 1, none⟩ = some (.string s)) (hb : b < w.heap.size) :
    Calls Tryz.prog 143 #[.pointer (some ⟨b, 0, none⟩)] w fun e w' => e = .returned (.int .u8 k) ∧ Below w.heap.size w w' := by
  go_enter Tryz.func143, Tryz.ntmps143
  go_wp2_with (first | (go_at_call 136; refine (told_any b k s _ ((World.cell?_alloc_lt _ _ _ hb).trans h0) ((World.cell?_alloc_lt _ _ _ hb).trans h1)).mono ?_; rintro e w' ⟨rfl, hbl⟩) | go_in)
  go_ret
  exact ⟨rfl, ((Below.refl _ w).alloc (Nat.le_refl _) _).trans (hbl.mono (by simp))⟩
set_option maxRecDepth 100000 in
theorem box_Kind (b : Nat) (k : Int) (s : ByteArray) (w : World) (h0 : w.cell? ⟨b, 0, none⟩ = some (.int .u8 k)) (h1 : w.cell? ⟨b, 1, none⟩ = some (.string s)) (hb : b < w.heap.size) :
    Calls Tryz.prog 150 #[.pointer (some ⟨b, 0, none⟩)] w fun e w' => e = .returned (.int .u8 k) ∧ Below w.heap.size w w' := by
  go_enter Tryz.func150, Tryz.ntmps150
  go_wp2_with (first | (go_at_call 136; refine (told_any b k s _ ((World.cell?_alloc_lt _ _ _ hb).trans h0) ((World.cell?_alloc_lt _ _ _ hb).trans h1)).mono ?_; rintro e w' ⟨rfl, hbl⟩) | go_in)
  go_ret
  exact ⟨rfl, ((Below.refl _ w).alloc (Nat.le_refl _) _).trans (hbl.mono (by simp))⟩
set_option maxRecDepth 100000 in
theorem grid_Kind (b : Nat) (k : Int) (s : ByteArray) (w : World) (h0 : w.cell? ⟨b, 0, none⟩ = some (.int .u8 k)) (h1 : w.cell? ⟨b, 1, none⟩ = some (.string s)) (hb : b < w.heap.size) :
    Calls Tryz.prog 155 #[.pointer (some ⟨b, 0, none⟩)] w fun e w' => e = .returned (.int .u8 k) ∧ Below w.heap.size w w' := by
  go_enter Tryz.func155, Tryz.ntmps155
  go_wp2_with (first | (go_at_call 136; refine (told_any b k s _ ((World.cell?_alloc_lt _ _ _ hb).trans h0) ((World.cell?_alloc_lt _ _ _ hb).trans h1)).mono ?_; rintro e w' ⟨rfl, hbl⟩) | go_in)
  go_ret
  exact ⟨rfl, ((Below.refl _ w).alloc (Nat.le_refl _) _).trans (hbl.mono (by simp))⟩
set_option maxRecDepth 100000 in
theorem scroll_Kind (b : Nat) (k : Int) (s : ByteArray) (w : World) (h0 : w.cell? ⟨b, 0, none⟩ = some (.int .u8 k)) (h1 : w.cell? ⟨b, 1, none⟩ = some (.string s)) (hb : b < w.heap.size) :
    Calls Tryz.prog 160 #[.pointer (some ⟨b, 0, none⟩)] w fun e w' => e = .returned (.int .u8 k) ∧ Below w.heap.size w w' := by
  go_enter Tryz.func160, Tryz.ntmps160
  go_wp2_with (first | (go_at_call 136; refine (told_any b k s _ ((World.cell?_alloc_lt _ _ _ hb).trans h0) ((World.cell?_alloc_lt _ _ _ hb).trans h1)).mono ?_; rintro e w' ⟨rfl, hbl⟩) | go_in)
  go_ret
  exact ⟨rfl, ((Below.refl _ w).alloc (Nat.le_refl _) _).trans (hbl.mono (by simp))⟩
set_option maxRecDepth 100000 in
theorem spinner_Kind (b : Nat) (k : Int) (s : ByteArray) (w : World) (h0 : w.cell? ⟨b, 0, none⟩ = some (.int .u8 k)) (h1 : w.cell? ⟨b, 1, none⟩ = some (.string s)) (hb : b < w.heap.size) :
    Calls Tryz.prog 168 #[.pointer (some ⟨b, 0, none⟩)] w fun e w' => e = .returned (.int .u8 k) ∧ Below w.heap.size w w' := by
  go_enter Tryz.func168, Tryz.ntmps168
  go_wp2_with (first | (go_at_call 136; refine (told_any b k s _ ((World.cell?_alloc_lt _ _ _ hb).trans h0) ((World.cell?_alloc_lt _ _ _ hb).trans h1)).mono ?_; rintro e w' ⟨rfl, hbl⟩) | go_in)
  go_ret
  exact ⟨rfl, ((Below.refl _ w).alloc (Nat.le_refl _) _).trans (hbl.mono (by simp))⟩
set_option maxRecDepth 100000 in
theorem canvas_Kind (b : Nat) (k : Int) (s : ByteArray) (w : World) (h0 : w.cell? ⟨b, 0, none⟩ = some (.int .u8 k)) (h1 : w.cell? ⟨b, 1, none⟩ = some (.string s)) (hb : b < w.heap.size) :
    Calls Tryz.prog 173 #[.pointer (some ⟨b, 0, none⟩)] w fun e w' => e = .returned (.int .u8 k) ∧ Below w.heap.size w w' := by
  go_enter Tryz.func173, Tryz.ntmps173
  go_wp2_with (first | (go_at_call 136; refine (told_any b k s _ ((World.cell?_alloc_lt _ _ _ hb).trans h0) ((World.cell?_alloc_lt _ _ _ hb).trans h1)).mono ?_; rintro e w' ⟨rfl, hbl⟩) | go_in)
  go_ret
  exact ⟨rfl, ((Below.refl _ w).alloc (Nat.le_refl _) _).trans (hbl.mono (by simp))⟩
set_option maxRecDepth 100000 in
theorem gap_Kind (b : Nat) (k : Int) (s : ByteArray) (w : World) (h0 : w.cell? ⟨b, 0, none⟩ = some (.int .u8 k)) (h1 : w.cell? ⟨b, 1, none⟩ = some (.string s)) (hb : b < w.heap.size) :
    Calls Tryz.prog 177 #[.pointer (some ⟨b, 0, none⟩)] w fun e w' => e = .returned (.int .u8 k) ∧ Below w.heap.size w w' := by
  go_enter Tryz.func177, Tryz.ntmps177
  go_wp2_with (first | (go_at_call 136; refine (told_any b k s _ ((World.cell?_alloc_lt _ _ _ hb).trans h0) ((World.cell?_alloc_lt _ _ _ hb).trans h1)).mono ?_; rintro e w' ⟨rfl, hbl⟩) | go_in)
  go_ret
  exact ⟨rfl, ((Below.refl _ w).alloc (Nat.le_refl _) _).trans (hbl.mono (by simp))⟩
set_option maxRecDepth 100000 in
theorem stack_Kind (b : Nat) (k : Int) (s : ByteArray) (w : World) (h0 : w.cell? ⟨b, 0, none⟩ = some (.int .u8 k)) (h1 : w.cell? ⟨b, 1, none⟩ = some (.string s)) (hb : b < w.heap.size) :
    Calls Tryz.prog 181 #[.pointer (some ⟨b, 0, none⟩)] w fun e w' => e = .returned (.int .u8 k) ∧ Below w.heap.size w w' := by
  go_enter Tryz.func181, Tryz.ntmps181
  go_wp2_with (first | (go_at_call 136; refine (told_any b k s _ ((World.cell?_alloc_lt _ _ _ hb).trans h0) ((World.cell?_alloc_lt _ _ _ hb).trans h1)).mono ?_; rintro e w' ⟨rfl, hbl⟩) | go_in)
  go_ret
  exact ⟨rfl, ((Below.refl _ w).alloc (Nat.le_refl _) _).trans (hbl.mono (by simp))⟩
/-- What a part is: a kind's own; the hollow wrapper; a wrapper with these abilities. -/
inductive PD where
  | kind (k : Nat)
  | half
  | wrap (m : Nat) (p : PD)
/-- What it can. -/
def PD.can : PD → Nat
  | .kind k => kindCan.getD (k - 1) 0
  | .half => 0
  | .wrap m _ => m
/-- What Kind answers. -/
def PD.num : PD → Nat
  | .kind k => k
  | .half => 0
  | .wrap _ p => if 0 < p.num then p.num else 9
/-- How many wrappers there are about what lies within. -/
def PD.steps : PD → Nat
  | .kind _ => 0
  | .half => 0
  | .wrap _ p => p.steps + 1
/-- Its type. -/
def PD.type : PD → Nat
  | .kind k => kindT.getD (k - 1) 0
  | .half => 109
  | .wrap m _ => withT.getD m 0
/-- Where a part lies: all its blocks below B. -/
def IsPart (B : Nat) (w : World) : Value → PD → Prop
  | v, .kind k => 1 ≤ k ∧ k ≤ 10 ∧ ∃ b s, b < B ∧ v = .iface (kindT.getD (k - 1) 0) (.pointer (some ⟨b, 0, none⟩)) ∧ w.cell? ⟨b, 0, none⟩ = some (.int .u8 k) ∧ w.cell? ⟨b, 1, none⟩ = some (.string s)
  | v, .half => v = .iface 109 (.pointer none)
  | v, .wrap m p => m < 64 ∧ ∃ b c u, b < B ∧ c < B ∧ v = .iface (withT.getD m 0) (.pointer (some ⟨b, 0, none⟩)) ∧ w.cell? ⟨b, 0, none⟩ = some (.pointer (some ⟨c, 0, none⟩)) ∧ w.cell? ⟨c, 0, none⟩ = some u ∧ IsPart B w u p
theorem IsPart.below {B B' : Nat} {w w' : World} : ∀ {p : PD} {v : Value}, IsPart B w v p → Below B w w' → B ≤ B' → IsPart B' w' v p
  | .kind k, v, h, hb, hB => by
    obtain ⟨h1, h2, b, s, hlt, hv, hc0, hc1⟩ := h
    exact ⟨h1, h2, b, s, by omega, hv, (hb.cell (p := ⟨b, 0, none⟩) hlt).trans hc0, (hb.cell (p := ⟨b, 1, none⟩) hlt).trans hc1⟩
  | .half, v, h, _, _ => h
  | .wrap m p, v, h, hb, hB => by
    obtain ⟨hm, b, c, u, hlb, hlc, hv, hc0, hc1, hu⟩ := h
    exact ⟨hm, b, c, u, by omega, by omega, hv, (hb.cell (p := ⟨b, 0, none⟩) hlb).trans hc0, (hb.cell (p := ⟨c, 0, none⟩) hlc).trans hc1, hu.below hb hB⟩
theorem IsPart.iface {B : Nat} {w : World} {p : PD} {v : Value} (h : IsPart B w v p) : ∃ x, v = .iface p.type x ∧ (p.type, p.can) ∈ tabT := by
  cases p with
  | kind k =>
    obtain ⟨h1, h2, b, s, hlt, hv, _⟩ := h
    refine ⟨_, hv, ?_⟩
    have hh : ∀ k : Fin 10, (kindT.getD k.val 0, kindCan.getD k.val 0) ∈ tabT := by decide +kernel
    exact hh ⟨k - 1, by omega⟩
  | half =>
    refine ⟨_, h, ?_⟩
    decide +kernel
  | wrap m p =>
    obtain ⟨hm, b, c, u, hlb, hlc, hv, _⟩ := h
    refine ⟨_, hv, ?_⟩
    have hh : ∀ k : Fin 64, (withT.getD k.val 0, k.val) ∈ tabT := by decide +kernel
    exact hh ⟨m, hm⟩
end Go.Proofs.YtbhcfopokdcplaaGreatDoor
