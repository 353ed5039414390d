/-
  Which function a method call on a part's interface value comes to, by the program's own table: a kind's own method; a wrapper's, through its core. No conditions.
-/
import Derived.Test.YtbhcfopokdcplaaGreatDoorB
namespace Go.Proofs.YtbhcfopokdcplaaGreatDoor
open Go.RowKit
/-- The method of a pointer type is its own, on the pointer. -/
def ownsM (P : Program) (t : Nat) (name : String) (f : Nat) : Bool :=
  match P.info? t, P.underlying t with
  | some i, some (.pointer _) => (match i.methods.find? (·.name == name) with
    | some m => m.path.isEmpty && (match m.func with | some (g, r) => g == f && r | none => false)
    | none => false)
  | _, _ => false
/-- The method of a pointer to a struct is that of the pointer in its first field. -/
def promotesM (P : Program) (t : Nat) (name : String) (f : Nat) : Bool :=
  match P.info? t with
  | some i => (match i.methods.find? (·.name == name) with
    | some m => (match m.path.toList, m.func with
      | [s], some (g, r) => s.index == 0 && s.deref && g == f && r && (match P.underlying s.struct with
        | some (.struct fs) => (match fs[0]? with
          | some fld => fld.offset == 0 && (match P.info? fld.type, P.underlying fld.type with
            | some fi, some (.pointer _) => fi.size == 1
            | _, _ => false)
          | none => false)
        | _ => false)
      | _, _ => false)
    | none => false)
  | none => false
theorem method_own {P : Program} {t f : Nat} {name : String} {a : Option Addr} {w : World} (h : ownsM P t name f = true) (n : Nat) :
    (method (n + 1) t (.pointer a) name).run P w = .ok (f, .pointer a) w := by
  unfold ownsM at h
  split at h <;> try simp at h
  rename_i i e hi hu
  split at h <;> try simp at h
  rename_i m hm
  obtain ⟨hp, h⟩ := h
  split at h <;> try simp at h
  rename_i g r hf
  obtain ⟨rfl, rfl⟩ := h
  simp [method, typeInfo, hi, hm, hp, hf, follow, receiverAt, underlying, hu, Place.get, go_sem]
theorem method_promoted {P : Program} {t f b : Nat} {name : String} {c : Value} {w : World} (h : promotesM P t name f = true) (hc : w.cell? ⟨b, 0, none⟩ = some c) (n : Nat) :
    (method (n + 1) t (.pointer (some ⟨b, 0, none⟩)) name).run P w = .ok (f, c) w := by
  unfold promotesM at h
  split at h <;> try simp at h
  rename_i i hi
  split at h <;> try simp at h
  rename_i m hm
  split at h <;> try simp at h
  rename_i s g r hp hf
  obtain ⟨⟨⟨⟨h0, h1⟩, rfl⟩, rfl⟩, h⟩ := h
  split at h <;> try simp at h
  rename_i fs hs
  split at h <;> try simp at h
  rename_i fld hfld
  obtain ⟨ho, h⟩ := h
  split at h <;> try simp at h
  rename_i fi e hfi hfu
  simp [method, typeInfo, hi, hm, hp, hf, follow, receiverAt, underlying, hs, h0, h1, hfld, ho, hfi, hfu, h, asAddr, fieldPlace, sizeOf, loadVar, isAgg, Place.get, go_sem, hc]
theorem tab_kind_own : (kindT.zip [130, 137, 143, 150, 155, 160, 168, 173, 177, 181]).all (fun x => ownsM Tryz.prog x.1 "Kind" x.2) = true := by kernel_rfl
theorem half_own : ownsM Tryz.prog 109 "Kind" 124 && ownsM Tryz.prog 109 "Unwrap" 126 = true := by kernel_rfl
theorem tab_with_kind : withT.all (fun t => promotesM Tryz.prog t "Kind" 127 && promotesM Tryz.prog t "Unwrap" 129) = true := by kernel_rfl
theorem calls_enter {P : Program} {f : Nat} {fn : Func} (hf : P.funcs[f]? = some fn) (hn : (fn.name == "runtime.NumGoroutine") = false) (hb : fn.body.isNone = false) (args : Array Value) (w : World) :
    (callFunc f args).run P w = .ok (.enter f args) w := by
  have hn' : fn.name ≠ "runtime.NumGoroutine" := by simpa using hn
  have hb' : fn.body ≠ none := fun e => by simp [e] at hb
  simp [callFunc, hf, hn', hb', go_sem]
end Go.Proofs.YtbhcfopokdcplaaGreatDoor
