/-
  What an assertion to each of the eight interfaces answers for a pointer to each of the ten kinds, to half, and to each of the 64 wrappers: by the program's own table of methods. No conditions.
-/
import Derived.Test.YtbhcfopokdcplaaGreatDoorProg
import Derived.WalkKit
import Derived.Outline
import Derived.KernelRfl
namespace Go.Proofs.YtbhcfopokdcplaaGreatDoor
open Go.RowKit
/-- The types' numbers of the 64 wrappers, by their abilities. -/
def withT : List Nat := [178, 181, 186, 190, 193, 197, 200, 203, 206, 210, 213, 216, 219, 222, 225, 228, 231, 235, 238, 241, 244, 247, 250, 253, 256, 259, 262, 265, 268, 271, 274, 277, 280, 284, 287, 290, 293, 296, 299, 302, 305, 308, 311, 314, 317, 320, 323, 326, 329, 332, 335, 338, 341, 344, 347, 350, 353, 356, 359, 362, 365, 368, 371, 374]
/-- The ten kinds' pointer types, by their kind less one. -/
def kindT : List Nat := [138, 141, 143, 145, 147, 149, 151, 153, 155, 157]
/-- What the ten kinds can. -/
def kindCan : List Nat := [3, 7, 23, 33, 33, 47, 3, 2, 1, 33]
/-- All types of parts, with what they can. -/
def tabT : List (Nat × Nat) := kindT.zip kindCan ++ [(109, 0)] ++ withT.zip (List.range 64)
/-- The interfaces that are asserted, with the bit of the ability. -/
def abilT : List (Nat × Nat) := [(94, 0), (97, 1), (100, 2), (103, 3), (106, 4), (89, 5), (88, 5)]
/-- The methods that an interface asks and a table lacks. -/
def lacking (want : Array (String × TypeId)) (got : Array Method) : List String :=
  (want.toList.filter fun (name, sig) => !got.any fun m => m.name == name && m.sig == sig).map (·.1)
theorem least_isNone (l : List String) : (Instr.least l).isNone = l.isEmpty := by cases l <;> rfl
theorem least_part (p : String → Bool) (f : String → String) (l : List String) : (Instr.least (l.filter (not ∘ p)) <|> Instr.least ((l.filter p).map f)).isNone = l.isEmpty := by
  cases l with
  | nil => rfl
  | cons a l =>
    simp only [List.isEmpty_cons]
    by_cases h : p a = true
    · have h2 : ∃ x, Instr.least (((a :: l).filter p).map f) = some x := by
        rw [List.filter_cons_of_pos h]
        exact ⟨_, rfl⟩
      obtain ⟨x, hx⟩ := h2
      rw [hx]
      cases Instr.least ((a :: l).filter (not ∘ p)) <;> rfl
    · have h2 : ∃ x, Instr.least ((a :: l).filter (not ∘ p)) = some x := by
        rw [List.filter_cons_of_pos (by simpa using h)]
        exact ⟨_, rfl⟩
      obtain ⟨x, hx⟩ := h2
      rw [hx]
      rfl
theorem missing_isNone (want : Array (String × TypeId)) (got : Array Method) : (Instr.missingMethod want got).isNone = (lacking want got).isEmpty := by
  unfold Instr.missingMethod
  show (_ <|> _ : Option String).isNone = _
  generalize hl : lacking want got = l
  unfold lacking at hl
  simp only [hl]
  have hp : ∀ p : String → Bool, List.partition.loop p l ([], []) = (l.filter p, l.filter (not ∘ p)) := by
    intro p
    rw [← List.partition_eq_filter_filter]; rfl
  rw [hp]
  exact least_part _ _ _
/-- Whether a type has an interface's methods. -/
def has (P : Program) (t I : Nat) : Bool :=
  match P.underlying I, P.info? t with
  | some (.interface want), some i => (lacking want i.methods).isEmpty
  | _, _ => false
/-- An interface type whose zero value is nil. -/
def nilZero (P : Program) (I : Nat) : Bool :=
  match P.underlying I, P.info? I with
  | some (.interface _), some i => (match i.zero with | some .nilIface => true | _ => false)
  | _, _ => false
def hasInfo (P : Program) (t : Nat) : Bool := (P.info? t).isSome
theorem tab_info : tabT.all (fun x => hasInfo Tryz.prog x.1) = true := by kernel_rfl
theorem tab_has : tabT.all (fun x => abilT.all fun y => has Tryz.prog x.1 y.1 == x.2.testBit y.2) = true := by kernel_rfl
theorem tab_unwrap : tabT.all (fun x => has Tryz.prog x.1 47 == !(kindT.contains x.1)) = true := by kernel_rfl
theorem abil_zero : abilT.all (fun y => nilZero Tryz.prog y.1) = true := by kernel_rfl
theorem unwrap_zero : nilZero Tryz.prog 47 = true := by kernel_rfl
theorem assert_run {P : Program} {t I : Nat} {v : Value} {w : World} (x : Nat) (hn : nilZero P I = true) (hi : hasInfo P t = true) :
    (Instr.typeAssert (.iface t v) x I true).run P w = .ok (.tuple #[if has P t I then .iface t v else .nilIface, .bool (has P t I)]) w := by
  unfold nilZero at hn
  unfold hasInfo at hi
  split at hn <;> try simp at hn
  rename_i want i hu hI
  split at hn <;> try simp at hn
  rename_i hz
  obtain ⟨j, hj⟩ := Option.isSome_iff_exists.1 hi
  have e : has P t I = (Instr.missingMethod want j.methods).isNone := by
    unfold has
    rw [hu, hj, missing_isNone]
  rw [e]
  clear e
  cases hm : Instr.missingMethod want j.methods with
  | none =>
    simp [Instr.typeAssert, underlying, typeInfo, hu, hj, hm, go_sem]
  | some m =>
    simp [Instr.typeAssert, underlying, typeInfo, zeroValue, hu, hj, hm, hI, hz, go_sem]
end Go.Proofs.YtbhcfopokdcplaaGreatDoor
