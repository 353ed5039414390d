/-
  Law 07's WrapShows returns true. Condition: utf8's two tables lie as the library lays them.
-/
import Derived.Test.YtbhcfopokdcplaaGreatDoorT
namespace Go.Proofs.YtbhcfopokdcplaaGreatDoor
open Go.RowKit
/-- Three small numbers. -/
structure S3 where
  a : Nat
  b : Nat
  c : Nat
  d : ByteArray
def S3.w (s : S3) : W := smallW s.a s.b s.c
def S3.byte (s : S3) : Prop := s.a < 256 ∧ s.b < 256 ∧ s.c < 256
/-- Small numbers that lie in memory behind a slice's address, all below block B. -/
def SmallsAt (B : Nat) (w : World) (A : Option Addr) (ss : List S3) : Prop :=
  ∀ i x, ss[i]? = some x → ∃ b o, A = some ⟨b, o, none⟩ ∧ b < B ∧ w.cell? ⟨b, o + i * 4, none⟩ = some (.int .u8 x.a) ∧ w.cell? ⟨b, o + i * 4 + 1, none⟩ = some (.int .u8 x.b) ∧ w.cell? ⟨b, o + i * 4 + 2, none⟩ = some (.int .u8 x.c) ∧ w.cell? ⟨b, o + i * 4 + 3, none⟩ = some (.string x.d)
theorem SmallsAt.below {B B' : Nat} {w w' : World} {A : Option Addr} {ws : List S3} (h : SmallsAt B w A ws) (hb : Below B w w') (hB : B ≤ B') : SmallsAt B' w' A ws := by
  intro i x hx
  obtain ⟨b, o, hA, hlt, h0, h1, h2, h3⟩ := h i x hx
  exact ⟨b, o, hA, by omega, (hb.cell (by exact hlt)).trans h0, (hb.cell (by exact hlt)).trans h1, (hb.cell (by exact hlt)).trans h2, (hb.cell (by exact hlt)).trans h3⟩
def nFirst (f : Nat) : N := ⟨1 + f % 10, ⟨#[]⟩, ⟨#[]⟩, ⟨#[]⟩, 0, 0, 0, 0, 0, 0, false, 0, 0, 0, 0, 0, false⟩
theorem empty_text : tText ⟨#[]⟩ 64 = true ∧ tText ⟨#[]⟩ 65536 = true := by decide +kernel
theorem first_fine (f : Nat) : (nFirst f).fine := by
  unfold N.fine nFirst
  dsimp only
  refine ⟨⟨by omega, by omega⟩, ⟨empty_text.1, empty_text.1, empty_text.2⟩, ⟨⟨by decide, by decide⟩, ⟨by decide, by decide⟩, ⟨by decide, by decide⟩, ⟨by decide, by decide⟩, ⟨by decide, by decide⟩, ⟨by decide, by decide⟩⟩, ⟨.inl rfl, .inl rfl⟩, ⟨by decide, by decide⟩, ⟨⟨by decide, by decide⟩, ⟨by decide, by decide⟩⟩, ⟨⟨by decide, by decide⟩, ⟨by decide, by decide⟩⟩⟩
theorem info40s : (Tryz.prog.info? 40).map (fun i => (i.zero, i.size, i.bytes)) = some (some (.agg #[.int .u8 0, .int .u16 0, .int .i64 0, .string ⟨#[]⟩]), 4, 32) := by kernel_rfl
/-- What the loop keeps. -/
structure Kept (w : World) (start : Nat) (ws : List W) (j : Nat) (v : Value) (p : PD) (all : Value) (wr : World) : Prop where
  part : IsPart wr.heap.size wr v p
  able : p.can = sayAll start (ws.take j)
  own : wr.ownsRow w.heap.size 40 4 all j (flat (ws.take j))
  len : (ws.take j).length = j
  nil : j = 0 → all = .slice none 0 0
  steps : p.steps ≤ j
  below : Below w.heap.size w wr
theorem cells_new (w : World) (o : Obj) (x : W) : ∀ (i : Nat) (u : Value), x.cells[i]? = some u → ((w.alloc o).alloc (.cells #[.int .u8 x.kind, .int .u16 x.mask, .int .i64 x.num, .string x.text] 40)).cell? ((⟨w.heap.size + 1, 0, none⟩ : Addr).add i) = some u := by
  intro i u hu
  rw [addr_add]
  rcases i with _ | _ | _ | _ | i
  all_goals
    simp [W.cells] at hu
    try subst hu
    try simp
theorem below_grownBy {a b : World} (h : Below a.heap.size a b) : a.grownBy b none := ⟨h.os, h.tape, h.output, h.size, fun k hk _ => h.block k hk⟩
theorem own_step {w wr w3 : World} {start j : Nat} {ws : List W} {u all : Value} {p : PD} (hK : Kept w start ws j u p all wr) (h3 : Below wr.heap.size wr w3) (o1 o2 : Obj) :
    ((w3.alloc o1).alloc o2).ownsRow w.heap.size 40 4 all j (flat (ws.take j)) := by
  refine ((hK.own.kept (below_grownBy h3) ?_).alloc o1).alloc o2
  cases h : all.ownBlock with
  | none => exact .inl rfl
  | some k => exact .inr (by simp)
theorem after_append {w wr w3 w4 : World} {start j : Nat} {ws : List W} {u all : Value} {p : PD} (hK : Kept w start ws j u p all wr) (h3 : Below wr.heap.size wr w3) (x : W)
    (hg : ((w3.alloc (.cells #[.int .u8 x.kind, .int .u16 x.mask, .int .i64 x.num, .string x.text] 40)).alloc (.cells #[.int .u8 x.kind, .int .u16 x.mask, .int .i64 x.num, .string x.text] 40)).grownBy w4 all.ownBlock) :
    IsPart w4.heap.size w4 u p ∧ Below w.heap.size w w4 ∧ w3.heap.size < w4.heap.size ∧ w4.cell? ⟨w3.heap.size, 0, none⟩ = some (.int .u8 x.kind) ∧ w4.cell? ⟨w3.heap.size, 1, none⟩ = some (.int .u16 x.mask) ∧ w4.cell? ⟨w3.heap.size, 2, none⟩ = some (.int .i64 x.num) ∧ w4.cell? ⟨w3.heap.size, 3, none⟩ = some (.string x.text) := by
  have hown := own_step hK h3 (.cells #[.int .u8 x.kind, .int .u16 x.mask, .int .i64 x.num, .string x.text] 40) (.cells #[.int .u8 x.kind, .int .u16 x.mask, .int .i64 x.num, .string x.text] 40)
  have hlt0 := fun k hk => hK.own.lt k hk
  have hw : w.heap.size ≤ wr.heap.size := hK.below.size
  have hz3 := h3.size
  have hb3 : Below w.heap.size w w3 := hK.below.trans (h3.mono hw)
  have hp3 : IsPart w3.heap.size w3 u p := hK.part.below h3 h3.size
  have hW0 : ∀ o : Obj, Below w3.heap.size w3 ((w3.alloc o).alloc o) := fun o => ((Below.refl _ w3).alloc (Nat.le_refl _) o).alloc (by simp) o
  have hrow : ∀ k, all.ownBlock = some k → RowHead ((w3.alloc (.cells #[.int .u8 x.kind, .int .u16 x.mask, .int .i64 x.num, .string x.text] 40)).alloc (.cells #[.int .u8 x.kind, .int .u16 x.mask, .int .i64 x.num, .string x.text] 40)) k := by
    intro k hk
    rcases Nat.eq_zero_or_pos j with h0 | h0
    · rw [hK.nil h0] at hk; cases hk
    · exact own_head hown hK.len.symm h0 k hk
  have hWX := hW0 (.cells #[.int .u8 x.kind, .int .u16 x.mask, .int .i64 x.num, .string x.text] 40)
  have hp0 := hp3.below hWX hWX.size
  have hb0 := hb3.trans ((hW0 (.cells #[.int .u8 x.kind, .int .u16 x.mask, .int .i64 x.num, .string x.text] 40)).mono hb3.size)
  have hne : some w3.heap.size ≠ all.ownBlock := by
    intro e
    have := (hlt0 _ e.symm).2
    omega
  have hcell : ∀ i, w4.cell? ⟨w3.heap.size, i, none⟩ = ((w3.alloc (.cells #[.int .u8 x.kind, .int .u16 x.mask, .int .i64 x.num, .string x.text] 40)).alloc (.cells #[.int .u8 x.kind, .int .u16 x.mask, .int .i64 x.num, .string x.text] 40)).cell? ⟨w3.heap.size, i, none⟩ := fun i => World.cell?_of_block (hg.block _ (by simp; omega) hne)
  refine ⟨(IsPart.grown hg hrow (Nat.le_refl _) hp0).below (Below.refl _ _) hg.size, hb0.grown hg (by have := hb3.size; simp; omega) (fun k hk => (hlt0 k hk).1), ?_, ?_, ?_, ?_, ?_⟩
  · have := hg.size
    simp at this
    omega
  · rw [hcell]; simp
  · rw [hcell]; simp
  · rw [hcell]; simp
  · rw [hcell]; simp
theorem count_eq {n q : Nat} (h : n ≤ 1000) (hq : (q : Int) = (n : Int) + 1) : Value.int .i64 (wrap64 ((n : Int) + 1)) = .int .i64 (q : Int) := by
  have h2 : wrap64 ((n : Int) + 1) = (n : Int) + 1 := by
    unfold wrap64
    omega
  rw [hq, h2]
/-- Around of a wrapper that may be, about a part that has room. -/
theorem Around_fine {B : Nat} {w : World} (hB : B ≤ w.heap.size) {p : PD} {v : Value} (h : IsPart B w v p) (hs : p.steps < 16) (x : W) (hm : x.mask < 65536) (hok : x.ok = true) (hT : Tabs w) :
    Calls Tryz.prog 11 #[v, .agg #[.int .u8 x.kind, .int .u16 x.mask, .int .i64 x.num, .string x.text]] w fun e w' => ∃ t y, e = .returned (.tuple #[.iface t y, .int .i64 0]) ∧ Below w.heap.size w w' ∧ IsPart w'.heap.size w' (.iface t y) (aroundP p x) ∧ (t, (aroundP p x).can) ∈ tabT ∧
      (∀ W, (Instr.typeAssert (.iface t y) 24 47 true).run Tryz.prog W = .ok (.tuple #[.iface t y, .bool true]) W) := by
  have he : aroundE p x = 0 := by
    unfold aroundE
    rw [if_pos hok]
    split
    · rfl
    · rw [if_neg (by omega)]
  refine (Around_any hB h (by omega) x hm hT).mono ?_
  rintro e w' ⟨v', rfl, hb, hp, _⟩
  have hp' := hp he
  obtain ⟨y, hy, ht⟩ := hp'.iface
  have hu := around_unwrap p x hp'
  subst hy
  refine ⟨_, y, by rw [he], hb, hp', ht, fun W => ?_⟩
  rw [assert_unwrap 24 ht, hu]
  rfl
set_option maxRecDepth 100000 in
set_option maxHeartbeats 8000000 in
theorem WrapShows_short (f cap B : Nat) (hf : f < 256) (A : Option Addr) (ss : List S3) (hss : ∀ x ∈ ss, x.byte) (w : World) (hB : B ≤ w.heap.size) (hT : Tabs w) (hA : SmallsAt B w A ss) (hl : ss.length ≤ 16) :
    Calls Tryz.prog 3 #[.int .u8 f, .slice A ss.length cap] w fun e w' => e = .returned (.bool true) ∧ Below w.heap.size w w' := by
  have hl' : ¬ ((16 : Int) < ss.length) := by omega
  have HT := Lib.hid (fun (W' : World) (h : Below w.heap.size w W') => hT.below h)
  have hM := fun a b => Make_fine (nFirst f) (first_fine f) a b w hT
  have hn : 1 + f % 10 ≤ 10 := by omega
  have hn1 : 1 ≤ 1 + f % 10 := by omega
  unfold N.vals nFirst at hM
  dsimp only at hM
  have hk2 : ((1 + f % 10 : Nat) : Int) = 1 + (f : Int) % 10 := by omega
  rw [hk2] at hM
  have HM := Lib.hid hM
  have HA := Lib.hid hA
  have HS := Lib.hid hss
  clear hT hM hA hss hk2
  generalize 1 + f % 10 = k at *
  go_enter Tryz.func3, Tryz.ntmps3
  go_wp2_with (first
    | (go_at_call 7; refine (HM.out _ _).mono ?_; rintro e w1 ⟨v, rfl, hp, hb⟩; obtain ⟨y, hy, ht⟩ := hp.iface; subst hy; have HP := Lib.hid hp; clear hp)
    | (go_at_call 8; refine (alive_any _ (HT.out _ hb)).mono ?_; rintro e w2 ⟨rfl, h2⟩)
    | (go_at_call 9; refine (holds_tab ht _ _).mono ?_; rintro e w3 ⟨rfl, rfl⟩))
  have hb2 := below_step hb h2
  have HP2 := Lib.hid (HP.out.below h2 h2.size)
  have hst := tab_lt ht
  have hs0 : ((PD.kind k).num == 0) = false := by
    show (k == 0) = false
    simp
    omega
  clear h2 HP hb ht HM
  go_loopg [5, 7, 9, 10, 11, 12] ss.length (fun gk u ab all cnt cl i wr => ∃ (j : Nat) (p : PD), j + gk = ss.length ∧ i = .int .i64 j ∧ ab = .int .u16 p.can ∧ cnt = .int .i64 p.steps ∧ cl = .bool (p.num == 0) ∧ Kept w (PD.kind k).can (ss.map S3.w) j u p all wr)
  case atStart =>
    exact ⟨0, .kind k, by omega, rfl, rfl, rfl, by rw [hs0], ⟨HP2.out, rfl, World.ownsRow_nil _ _ _ _, rfl, fun _ => rfl, Nat.le_refl _, hb2⟩⟩
  case round =>
    obtain ⟨j, p, hj, rfl, rfl, rfl, rfl, hK⟩ := hrel
    have HK := Lib.hid hK
    clear hK
    by_cases hlt : j < ss.length
    · have hx : ss[j]? = some ss[j] := List.getElem?_eq_getElem hlt
      have hby := HS.out ss[j] (List.getElem_mem hlt)
      obtain ⟨b, o, rfl, hlb, c0, c1, c2, c3⟩ := (HA.out.below (HK.out.below.mono hB) (Nat.le_refl _)) j _ hx
      obtain ⟨hba, hbb, hbc⟩ := hby
      have hxw : (ss.map S3.w)[j]? = some (smallW ss[j].a ss[j].b ss[j].c) := by
        rw [List.getElem?_map, hx]; rfl
      have hmask := small_mask ss[j].a ss[j].b ss[j].c
      have hkind := small_kind ss[j].a ss[j].b ss[j].c
      have hok := small_ok ss[j].a ss[j].b ss[j].c hbc
      have hcall := fun W => wrapper_any ss[j].a ss[j].b ss[j].c hba hbb hbc ss[j].d W
      clear hx hba hbb hbc
      generalize smallW ss[j].a ss[j].b ss[j].c = x at *
      generalize ss[j].a = xa at *
      generalize ss[j].b = xb at *
      generalize ss[j].c = xc at *
      generalize ss[j].d = xd at *
      have hcan := can_lt HK.out.part
      have hst16 : p.steps < 16 := by have := HK.out.steps; omega
      have hAR := fun W (hp : IsPart W.heap.size W u5 p) (hb : Below w.heap.size w W) => Around_fine (Nat.le_refl _) hp hst16 x (by omega) hok (HT.out W hb)
      have hAF := fun w3 w4 h3 hg => after_append (w4 := w4) HK.out (w3 := w3) h3 x hg
      have hOW := fun w3 (h3 : Below wr.heap.size wr w3) o1 o2 => own_step HK.out h3 o1 o2
      have hCN := fun w o => cells_new w o x
      have hAN := around_num p x
      have hAC := around_can p x
      have hAS := around_steps p x
      have hX1 := cells_one x
      obtain ⟨i0, hi, hz0, hz1, hz2⟩ := info_parts info40s
      have hj9 : j + 1 ≤ maxLen := by unfold maxLen; omega
      have hj10 : (j + 1) * 32 ≤ 140737488355328 := by omega
      have hlast : ∀ v : Value, (ss.map S3.w).take (j + 1) = (ss.map S3.w).take j ++ [x] := fun _ => by
        rw [List.take_succ_eq_append_getElem (by simpa using hlt)]
        congr 1
        have := List.getElem?_eq_some_iff.1 hxw
        rw [this.2]
      have hTK := hlast u5
      clear hlast
      have hsay : sayAll (PD.kind k).can ((ss.map S3.w).take (j + 1)) = sayN p.can x.kind x.mask := by
        rw [hTK, HK.out.able]
        simp [sayAll]
      have HX := Lib.hid (And.intro hTK (And.intro hsay (And.intro hAC (And.intro hAS hj))))
      have HI := Lib.hid (And.intro hi (And.intro hz0 (And.intro hz1 (And.intro hz2 (And.intro hj9 hj10)))))
      have HAF := Lib.hid hAF
      have HOW := Lib.hid hOW
      have HCN := Lib.hid hCN
      have HX1 := Lib.hid hX1
      have HAN := Lib.hid hAN
      obtain ⟨xk, xm, xn, xt⟩ := x
      have HAR := Lib.hid hAR
      have HC := Lib.hid hcall
      unfold W.vals at HC
      clear hxw hok hcall hj hAR hAF hOW hCN hX1 hAN hTK hsay hAC hAS hi hz0 hz1 hz2 hj9 hj10 hst16
      dsimp only at *
      have hba := bits_and p.can xm hcan hmask
      have hbo4 := bits_or4 p.can hcan
      have hbo16 := bits_or16 p.can hcan
      have hle : p.can &&& xm ≤ p.can := Nat.and_le_left
      have hsub := sub_and p.can xm hcan hmask
      have hk7 : xk = 1 ∨ xk = 2 ∨ xk = 3 ∨ xk = 4 ∨ xk = 5 ∨ xk = 6 ∨ xk = 7 := by omega
      clear hkind
      rcases hk7 with hk | hk | hk | hk | hk | hk | hk
      · have HQK := Lib.hid hk
        have t1 : ((xk : Int) == 1) = true := by rw [hk]; rfl
        have t2 : ((xk : Int) == 2) = false := by rw [hk]; rfl
        have t5 : ((xk : Int) == 5) = false := by rw [hk]; rfl
        have t6 : ((xk : Int) == 6) = false := by rw [hk]; rfl
        have t7 : ((xk : Int) == 7) = false := by rw [hk]; rfl
        have hq : ((aroundP p ⟨xk, xm, xn, xt⟩).can : Int) = (p.can : Int) - ((p.can &&& xm : Nat) : Int) := by rw [HX.out.2.2.1, hk]; show ((p.can &&& (63 ^^^ xm) : Nat) : Int) = _; rw [hsub]; omega
        have hN : ((aroundP p ⟨xk, xm, xn, xt⟩).num == 0) = false := by rw [HAN.out, hk]; rfl
        have hSt : ((aroundP p ⟨xk, xm, xn, xt⟩).steps : Int) = (p.steps : Int) + 1 := by rw [HX.out.2.2.2.1, hk]; simp
        have HSt := Lib.hid hSt
        have HN := Lib.hid hN
        have HQ := Lib.hid hq
        clear hSt hsub hk
        go_wp2_with (first
          | (go_at_call 10; refine (HC.out _).mono ?_; rintro e w3 ⟨rfl, h3⟩)
          | (at_builtin; refine wpList_append_own _ rfl _ _ 32 rfl w.heap.size 40 i0 _ 4 32 Tryz.underlying32 HI.out.1 HI.out.2.1 HI.out.2.2.1 HI.out.2.2.2.1 rfl (by decide) u9 j (flat ((ss.map S3.w).take j)) rfl (HOW.out _ h3 _ _) ⟨w3.heap.size + 1, 0, none⟩ 1 1 (W.cells ⟨xk, xm, xn, xt⟩) rfl rfl (HCN.out _ _) HX1.out HI.out.2.2.2.2.1 HI.out.2.2.2.2.2 (by have := HK.out.below.size; have := h3.size; simp; omega) ?_; intro v' w4 hown' hgrow _hiff; obtain ⟨hp4, hb4, hlt4, kx0, kx1, kx2, kx3⟩ := HAF.out _ _ h3 hgrow; have HP4 := Lib.hid (And.intro hp4 (And.intro hb4 (And.intro hown' hgrow))); clear hp4 hb4 hown' hgrow)
          | (go_at_call 11; refine (HAR.out _ HP4.out.1 HP4.out.2.1).mono ?_; rintro e w5 ⟨t5, y5, rfl, h5, hp5, ht5, ha5⟩; have HP5 := Lib.hid hp5; clear hp5)
          | (go_at_call 9; refine (holds_tab ht5 _ _).mono ?_; rintro e w' ⟨rfl, rfl⟩)
          | (go_at_call 12; refine (None_part (Nat.le_refl _) HP5.out).mono ?_; rintro e w6 ⟨rfl, h6⟩))
        go_roundg (gk - 1)
        case measure => have := HX.out.2.2.2.2; omega
        case rel =>
          have h46 : Below w4.heap.size w4 w6 := below_step h5 h6
          have hlen : ((ss.map S3.w).take (j + 1)).length = j + 1 := by simp; omega
          exact ⟨j + 1, aroundP p ⟨xk, xm, xn, xt⟩, by have := HX.out.2.2.2.2; omega, by go_num, by rw [HQ.out], count_eq (by have := HK.out.steps; omega) HSt.out, by rw [HN.out], ⟨HP5.out.below h6 h6.size, by rw [HX.out.2.2.1]; exact HX.out.2.1.symm, by rw [HX.out.1, flat_append, flat_one]; exact HP4.out.2.2.1.kept (below_grownBy h46) (by cases v'.ownBlock <;> simp), hlen, fun h => absurd h (by omega), by have := HSt.out; have := HK.out.steps; omega, below_step HP4.out.2.1 h46⟩⟩
      · have HQK := Lib.hid hk
        have t1 : ((xk : Int) == 1) = false := by rw [hk]; rfl
        have t2 : ((xk : Int) == 2) = true := by rw [hk]; rfl
        have t5 : ((xk : Int) == 5) = false := by rw [hk]; rfl
        have t6 : ((xk : Int) == 6) = false := by rw [hk]; rfl
        have t7 : ((xk : Int) == 7) = false := by rw [hk]; rfl
        have hq : ((aroundP p ⟨xk, xm, xn, xt⟩).can : Int) = ((p.can &&& xm : Nat) : Int) := by rw [HX.out.2.2.1, hk]; simp [sayN]
        have hN : ((aroundP p ⟨xk, xm, xn, xt⟩).num == 0) = false := by rw [HAN.out, hk]; rfl
        have hSt : ((aroundP p ⟨xk, xm, xn, xt⟩).steps : Int) = (p.steps : Int) + 1 := by rw [HX.out.2.2.2.1, hk]; simp
        have HSt := Lib.hid hSt
        have HN := Lib.hid hN
        have HQ := Lib.hid hq
        clear hSt hsub hk
        go_wp2_with (first
          | (go_at_call 10; refine (HC.out _).mono ?_; rintro e w3 ⟨rfl, h3⟩)
          | (at_builtin; refine wpList_append_own _ rfl _ _ 32 rfl w.heap.size 40 i0 _ 4 32 Tryz.underlying32 HI.out.1 HI.out.2.1 HI.out.2.2.1 HI.out.2.2.2.1 rfl (by decide) u9 j (flat ((ss.map S3.w).take j)) rfl (HOW.out _ h3 _ _) ⟨w3.heap.size + 1, 0, none⟩ 1 1 (W.cells ⟨xk, xm, xn, xt⟩) rfl rfl (HCN.out _ _) HX1.out HI.out.2.2.2.2.1 HI.out.2.2.2.2.2 (by have := HK.out.below.size; have := h3.size; simp; omega) ?_; intro v' w4 hown' hgrow _hiff; obtain ⟨hp4, hb4, hlt4, kx0, kx1, kx2, kx3⟩ := HAF.out _ _ h3 hgrow; have HP4 := Lib.hid (And.intro hp4 (And.intro hb4 (And.intro hown' hgrow))); clear hp4 hb4 hown' hgrow)
          | (go_at_call 11; refine (HAR.out _ HP4.out.1 HP4.out.2.1).mono ?_; rintro e w5 ⟨t5, y5, rfl, h5, hp5, ht5, ha5⟩; have HP5 := Lib.hid hp5; clear hp5)
          | (go_at_call 9; refine (holds_tab ht5 _ _).mono ?_; rintro e w' ⟨rfl, rfl⟩)
          | (go_at_call 12; refine (None_part (Nat.le_refl _) HP5.out).mono ?_; rintro e w6 ⟨rfl, h6⟩))
        go_roundg (gk - 1)
        case measure => have := HX.out.2.2.2.2; omega
        case rel =>
          have h46 : Below w4.heap.size w4 w6 := below_step h5 h6
          have hlen : ((ss.map S3.w).take (j + 1)).length = j + 1 := by simp; omega
          exact ⟨j + 1, aroundP p ⟨xk, xm, xn, xt⟩, by have := HX.out.2.2.2.2; omega, by go_num, by rw [HQ.out], count_eq (by have := HK.out.steps; omega) HSt.out, by rw [HN.out], ⟨HP5.out.below h6 h6.size, by rw [HX.out.2.2.1]; exact HX.out.2.1.symm, by rw [HX.out.1, flat_append, flat_one]; exact HP4.out.2.2.1.kept (below_grownBy h46) (by cases v'.ownBlock <;> simp), hlen, fun h => absurd h (by omega), by have := HSt.out; have := HK.out.steps; omega, below_step HP4.out.2.1 h46⟩⟩
      · have HQK := Lib.hid hk
        have t1 : ((xk : Int) == 1) = false := by rw [hk]; rfl
        have t2 : ((xk : Int) == 2) = false := by rw [hk]; rfl
        have t5 : ((xk : Int) == 5) = false := by rw [hk]; rfl
        have t6 : ((xk : Int) == 6) = false := by rw [hk]; rfl
        have t7 : ((xk : Int) == 7) = false := by rw [hk]; rfl
        have hq : ((aroundP p ⟨xk, xm, xn, xt⟩).can : Int) = (p.can : Int) := by rw [HX.out.2.2.1, hk]; simp [sayN]
        have hN : ((aroundP p ⟨xk, xm, xn, xt⟩).num == 0) = false := by rw [HAN.out, hk]; rfl
        have hSt : ((aroundP p ⟨xk, xm, xn, xt⟩).steps : Int) = (p.steps : Int) + 1 := by rw [HX.out.2.2.2.1, hk]; simp
        have HSt := Lib.hid hSt
        have HN := Lib.hid hN
        have HQ := Lib.hid hq
        clear hSt hsub hk
        go_wp2_with (first
          | (go_at_call 10; refine (HC.out _).mono ?_; rintro e w3 ⟨rfl, h3⟩)
          | (at_builtin; refine wpList_append_own _ rfl _ _ 32 rfl w.heap.size 40 i0 _ 4 32 Tryz.underlying32 HI.out.1 HI.out.2.1 HI.out.2.2.1 HI.out.2.2.2.1 rfl (by decide) u9 j (flat ((ss.map S3.w).take j)) rfl (HOW.out _ h3 _ _) ⟨w3.heap.size + 1, 0, none⟩ 1 1 (W.cells ⟨xk, xm, xn, xt⟩) rfl rfl (HCN.out _ _) HX1.out HI.out.2.2.2.2.1 HI.out.2.2.2.2.2 (by have := HK.out.below.size; have := h3.size; simp; omega) ?_; intro v' w4 hown' hgrow _hiff; obtain ⟨hp4, hb4, hlt4, kx0, kx1, kx2, kx3⟩ := HAF.out _ _ h3 hgrow; have HP4 := Lib.hid (And.intro hp4 (And.intro hb4 (And.intro hown' hgrow))); clear hp4 hb4 hown' hgrow)
          | (go_at_call 11; refine (HAR.out _ HP4.out.1 HP4.out.2.1).mono ?_; rintro e w5 ⟨t5, y5, rfl, h5, hp5, ht5, ha5⟩; have HP5 := Lib.hid hp5; clear hp5)
          | (go_at_call 9; refine (holds_tab ht5 _ _).mono ?_; rintro e w' ⟨rfl, rfl⟩)
          | (go_at_call 12; refine (None_part (Nat.le_refl _) HP5.out).mono ?_; rintro e w6 ⟨rfl, h6⟩))
        go_roundg (gk - 1)
        case measure => have := HX.out.2.2.2.2; omega
        case rel =>
          have h46 : Below w4.heap.size w4 w6 := below_step h5 h6
          have hlen : ((ss.map S3.w).take (j + 1)).length = j + 1 := by simp; omega
          exact ⟨j + 1, aroundP p ⟨xk, xm, xn, xt⟩, by have := HX.out.2.2.2.2; omega, by go_num, by rw [HQ.out], count_eq (by have := HK.out.steps; omega) HSt.out, by rw [HN.out], ⟨HP5.out.below h6 h6.size, by rw [HX.out.2.2.1]; exact HX.out.2.1.symm, by rw [HX.out.1, flat_append, flat_one]; exact HP4.out.2.2.1.kept (below_grownBy h46) (by cases v'.ownBlock <;> simp), hlen, fun h => absurd h (by omega), by have := HSt.out; have := HK.out.steps; omega, below_step HP4.out.2.1 h46⟩⟩
      · have HQK := Lib.hid hk
        have t1 : ((xk : Int) == 1) = false := by rw [hk]; rfl
        have t2 : ((xk : Int) == 2) = false := by rw [hk]; rfl
        have t5 : ((xk : Int) == 5) = false := by rw [hk]; rfl
        have t6 : ((xk : Int) == 6) = false := by rw [hk]; rfl
        have t7 : ((xk : Int) == 7) = false := by rw [hk]; rfl
        have hq : ((aroundP p ⟨xk, xm, xn, xt⟩).can : Int) = (p.can : Int) := by rw [HX.out.2.2.1, hk]; simp [sayN]
        have hN : ((aroundP p ⟨xk, xm, xn, xt⟩).num == 0) = false := by rw [HAN.out, hk]; rfl
        have hSt : ((aroundP p ⟨xk, xm, xn, xt⟩).steps : Int) = (p.steps : Int) + 1 := by rw [HX.out.2.2.2.1, hk]; simp
        have HSt := Lib.hid hSt
        have HN := Lib.hid hN
        have HQ := Lib.hid hq
        clear hSt hsub hk
        go_wp2_with (first
          | (go_at_call 10; refine (HC.out _).mono ?_; rintro e w3 ⟨rfl, h3⟩)
          | (at_builtin; refine wpList_append_own _ rfl _ _ 32 rfl w.heap.size 40 i0 _ 4 32 Tryz.underlying32 HI.out.1 HI.out.2.1 HI.out.2.2.1 HI.out.2.2.2.1 rfl (by decide) u9 j (flat ((ss.map S3.w).take j)) rfl (HOW.out _ h3 _ _) ⟨w3.heap.size + 1, 0, none⟩ 1 1 (W.cells ⟨xk, xm, xn, xt⟩) rfl rfl (HCN.out _ _) HX1.out HI.out.2.2.2.2.1 HI.out.2.2.2.2.2 (by have := HK.out.below.size; have := h3.size; simp; omega) ?_; intro v' w4 hown' hgrow _hiff; obtain ⟨hp4, hb4, hlt4, kx0, kx1, kx2, kx3⟩ := HAF.out _ _ h3 hgrow; have HP4 := Lib.hid (And.intro hp4 (And.intro hb4 (And.intro hown' hgrow))); clear hp4 hb4 hown' hgrow)
          | (go_at_call 11; refine (HAR.out _ HP4.out.1 HP4.out.2.1).mono ?_; rintro e w5 ⟨t5, y5, rfl, h5, hp5, ht5, ha5⟩; have HP5 := Lib.hid hp5; clear hp5)
          | (go_at_call 9; refine (holds_tab ht5 _ _).mono ?_; rintro e w' ⟨rfl, rfl⟩)
          | (go_at_call 12; refine (None_part (Nat.le_refl _) HP5.out).mono ?_; rintro e w6 ⟨rfl, h6⟩))
        go_roundg (gk - 1)
        case measure => have := HX.out.2.2.2.2; omega
        case rel =>
          have h46 : Below w4.heap.size w4 w6 := below_step h5 h6
          have hlen : ((ss.map S3.w).take (j + 1)).length = j + 1 := by simp; omega
          exact ⟨j + 1, aroundP p ⟨xk, xm, xn, xt⟩, by have := HX.out.2.2.2.2; omega, by go_num, by rw [HQ.out], count_eq (by have := HK.out.steps; omega) HSt.out, by rw [HN.out], ⟨HP5.out.below h6 h6.size, by rw [HX.out.2.2.1]; exact HX.out.2.1.symm, by rw [HX.out.1, flat_append, flat_one]; exact HP4.out.2.2.1.kept (below_grownBy h46) (by cases v'.ownBlock <;> simp), hlen, fun h => absurd h (by omega), by have := HSt.out; have := HK.out.steps; omega, below_step HP4.out.2.1 h46⟩⟩
      · have HQK := Lib.hid hk
        have t1 : ((xk : Int) == 1) = false := by rw [hk]; rfl
        have t2 : ((xk : Int) == 2) = false := by rw [hk]; rfl
        have t5 : ((xk : Int) == 5) = true := by rw [hk]; rfl
        have t6 : ((xk : Int) == 6) = false := by rw [hk]; rfl
        have t7 : ((xk : Int) == 7) = false := by rw [hk]; rfl
        have hq : ((aroundP p ⟨xk, xm, xn, xt⟩).can : Int) = ((p.can ||| 4 : Nat) : Int) := by rw [HX.out.2.2.1, hk]; simp [sayN]
        have hN : ((aroundP p ⟨xk, xm, xn, xt⟩).num == 0) = false := by rw [HAN.out, hk]; rfl
        have hSt : ((aroundP p ⟨xk, xm, xn, xt⟩).steps : Int) = (p.steps : Int) + 1 := by rw [HX.out.2.2.2.1, hk]; simp
        have HSt := Lib.hid hSt
        have HN := Lib.hid hN
        have HQ := Lib.hid hq
        clear hSt hsub hk
        go_wp2_with (first
          | (go_at_call 10; refine (HC.out _).mono ?_; rintro e w3 ⟨rfl, h3⟩)
          | (at_builtin; refine wpList_append_own _ rfl _ _ 32 rfl w.heap.size 40 i0 _ 4 32 Tryz.underlying32 HI.out.1 HI.out.2.1 HI.out.2.2.1 HI.out.2.2.2.1 rfl (by decide) u9 j (flat ((ss.map S3.w).take j)) rfl (HOW.out _ h3 _ _) ⟨w3.heap.size + 1, 0, none⟩ 1 1 (W.cells ⟨xk, xm, xn, xt⟩) rfl rfl (HCN.out _ _) HX1.out HI.out.2.2.2.2.1 HI.out.2.2.2.2.2 (by have := HK.out.below.size; have := h3.size; simp; omega) ?_; intro v' w4 hown' hgrow _hiff; obtain ⟨hp4, hb4, hlt4, kx0, kx1, kx2, kx3⟩ := HAF.out _ _ h3 hgrow; have HP4 := Lib.hid (And.intro hp4 (And.intro hb4 (And.intro hown' hgrow))); clear hp4 hb4 hown' hgrow)
          | (go_at_call 11; refine (HAR.out _ HP4.out.1 HP4.out.2.1).mono ?_; rintro e w5 ⟨t5, y5, rfl, h5, hp5, ht5, ha5⟩; have HP5 := Lib.hid hp5; clear hp5)
          | (go_at_call 9; refine (holds_tab ht5 _ _).mono ?_; rintro e w' ⟨rfl, rfl⟩)
          | (go_at_call 12; refine (None_part (Nat.le_refl _) HP5.out).mono ?_; rintro e w6 ⟨rfl, h6⟩))
        go_roundg (gk - 1)
        case measure => have := HX.out.2.2.2.2; omega
        case rel =>
          have h46 : Below w4.heap.size w4 w6 := below_step h5 h6
          have hlen : ((ss.map S3.w).take (j + 1)).length = j + 1 := by simp; omega
          exact ⟨j + 1, aroundP p ⟨xk, xm, xn, xt⟩, by have := HX.out.2.2.2.2; omega, by go_num, by rw [HQ.out], count_eq (by have := HK.out.steps; omega) HSt.out, by rw [HN.out], ⟨HP5.out.below h6 h6.size, by rw [HX.out.2.2.1]; exact HX.out.2.1.symm, by rw [HX.out.1, flat_append, flat_one]; exact HP4.out.2.2.1.kept (below_grownBy h46) (by cases v'.ownBlock <;> simp), hlen, fun h => absurd h (by omega), by have := HSt.out; have := HK.out.steps; omega, below_step HP4.out.2.1 h46⟩⟩
      · have HQK := Lib.hid hk
        have t1 : ((xk : Int) == 1) = false := by rw [hk]; rfl
        have t2 : ((xk : Int) == 2) = false := by rw [hk]; rfl
        have t5 : ((xk : Int) == 5) = false := by rw [hk]; rfl
        have t6 : ((xk : Int) == 6) = true := by rw [hk]; rfl
        have t7 : ((xk : Int) == 7) = false := by rw [hk]; rfl
        have hq : ((aroundP p ⟨xk, xm, xn, xt⟩).can : Int) = ((p.can ||| 16 : Nat) : Int) := by rw [HX.out.2.2.1, hk]; simp [sayN]
        have hN : ((aroundP p ⟨xk, xm, xn, xt⟩).num == 0) = false := by rw [HAN.out, hk]; rfl
        have hSt : ((aroundP p ⟨xk, xm, xn, xt⟩).steps : Int) = (p.steps : Int) + 1 := by rw [HX.out.2.2.2.1, hk]; simp
        have HSt := Lib.hid hSt
        have HN := Lib.hid hN
        have HQ := Lib.hid hq
        clear hSt hsub hk
        go_wp2_with (first
          | (go_at_call 10; refine (HC.out _).mono ?_; rintro e w3 ⟨rfl, h3⟩)
          | (at_builtin; refine wpList_append_own _ rfl _ _ 32 rfl w.heap.size 40 i0 _ 4 32 Tryz.underlying32 HI.out.1 HI.out.2.1 HI.out.2.2.1 HI.out.2.2.2.1 rfl (by decide) u9 j (flat ((ss.map S3.w).take j)) rfl (HOW.out _ h3 _ _) ⟨w3.heap.size + 1, 0, none⟩ 1 1 (W.cells ⟨xk, xm, xn, xt⟩) rfl rfl (HCN.out _ _) HX1.out HI.out.2.2.2.2.1 HI.out.2.2.2.2.2 (by have := HK.out.below.size; have := h3.size; simp; omega) ?_; intro v' w4 hown' hgrow _hiff; obtain ⟨hp4, hb4, hlt4, kx0, kx1, kx2, kx3⟩ := HAF.out _ _ h3 hgrow; have HP4 := Lib.hid (And.intro hp4 (And.intro hb4 (And.intro hown' hgrow))); clear hp4 hb4 hown' hgrow)
          | (go_at_call 11; refine (HAR.out _ HP4.out.1 HP4.out.2.1).mono ?_; rintro e w5 ⟨t5, y5, rfl, h5, hp5, ht5, ha5⟩; have HP5 := Lib.hid hp5; clear hp5)
          | (go_at_call 9; refine (holds_tab ht5 _ _).mono ?_; rintro e w' ⟨rfl, rfl⟩)
          | (go_at_call 12; refine (None_part (Nat.le_refl _) HP5.out).mono ?_; rintro e w6 ⟨rfl, h6⟩))
        go_roundg (gk - 1)
        case measure => have := HX.out.2.2.2.2; omega
        case rel =>
          have h46 : Below w4.heap.size w4 w6 := below_step h5 h6
          have hlen : ((ss.map S3.w).take (j + 1)).length = j + 1 := by simp; omega
          exact ⟨j + 1, aroundP p ⟨xk, xm, xn, xt⟩, by have := HX.out.2.2.2.2; omega, by go_num, by rw [HQ.out], count_eq (by have := HK.out.steps; omega) HSt.out, by rw [HN.out], ⟨HP5.out.below h6 h6.size, by rw [HX.out.2.2.1]; exact HX.out.2.1.symm, by rw [HX.out.1, flat_append, flat_one]; exact HP4.out.2.2.1.kept (below_grownBy h46) (by cases v'.ownBlock <;> simp), hlen, fun h => absurd h (by omega), by have := HSt.out; have := HK.out.steps; omega, below_step HP4.out.2.1 h46⟩⟩
      · have HQK := Lib.hid hk
        have t1 : ((xk : Int) == 1) = false := by rw [hk]; rfl
        have t2 : ((xk : Int) == 2) = false := by rw [hk]; rfl
        have t5 : ((xk : Int) == 5) = false := by rw [hk]; rfl
        have t6 : ((xk : Int) == 6) = false := by rw [hk]; rfl
        have t7 : ((xk : Int) == 7) = true := by rw [hk]; rfl
        have hq : ((aroundP p ⟨xk, xm, xn, xt⟩).can : Int) = 0 := by rw [HX.out.2.2.1, hk]; simp [sayN]
        have hN : ((aroundP p ⟨xk, xm, xn, xt⟩).num == 0) = true := by rw [HAN.out, hk]; rfl
        have hSt : ((aroundP p ⟨xk, xm, xn, xt⟩).steps : Int) = 0 := by rw [HX.out.2.2.2.1, hk]; simp
        have HSt := Lib.hid hSt
        have HN := Lib.hid hN
        have HQ := Lib.hid hq
        clear hSt hsub hk
        go_wp2_with (first
          | (go_at_call 10; refine (HC.out _).mono ?_; rintro e w3 ⟨rfl, h3⟩)
          | (at_builtin; refine wpList_append_own _ rfl _ _ 32 rfl w.heap.size 40 i0 _ 4 32 Tryz.underlying32 HI.out.1 HI.out.2.1 HI.out.2.2.1 HI.out.2.2.2.1 rfl (by decide) u9 j (flat ((ss.map S3.w).take j)) rfl (HOW.out _ h3 _ _) ⟨w3.heap.size + 1, 0, none⟩ 1 1 (W.cells ⟨xk, xm, xn, xt⟩) rfl rfl (HCN.out _ _) HX1.out HI.out.2.2.2.2.1 HI.out.2.2.2.2.2 (by have := HK.out.below.size; have := h3.size; simp; omega) ?_; intro v' w4 hown' hgrow _hiff; obtain ⟨hp4, hb4, hlt4, kx0, kx1, kx2, kx3⟩ := HAF.out _ _ h3 hgrow; have HP4 := Lib.hid (And.intro hp4 (And.intro hb4 (And.intro hown' hgrow))); clear hp4 hb4 hown' hgrow)
          | (go_at_call 11; refine (HAR.out _ HP4.out.1 HP4.out.2.1).mono ?_; rintro e w5 ⟨t5, y5, rfl, h5, hp5, ht5, ha5⟩; have HP5 := Lib.hid hp5; clear hp5)
          | (go_at_call 9; refine (holds_tab ht5 _ _).mono ?_; rintro e w' ⟨rfl, rfl⟩)
          | (go_at_call 12; refine (None_part (Nat.le_refl _) HP5.out).mono ?_; rintro e w6 ⟨rfl, h6⟩))
        go_roundg (gk - 1)
        case measure => have := HX.out.2.2.2.2; omega
        case rel =>
          have h46 : Below w4.heap.size w4 w6 := below_step h5 h6
          have hlen : ((ss.map S3.w).take (j + 1)).length = j + 1 := by simp; omega
          exact ⟨j + 1, aroundP p ⟨xk, xm, xn, xt⟩, by have := HX.out.2.2.2.2; omega, by go_num, by rw [HQ.out], by rw [HSt.out], by rw [HN.out], ⟨HP5.out.below h6 h6.size, by rw [HX.out.2.2.1]; exact HX.out.2.1.symm, by rw [HX.out.1, flat_append, flat_one]; exact HP4.out.2.2.1.kept (below_grownBy h46) (by cases v'.ownBlock <;> simp), hlen, fun h => absurd h (by omega), by have := HSt.out; have := HK.out.steps; omega, below_step HP4.out.2.1 h46⟩⟩
    · have hjn : j = ss.length := by omega
      obtain ⟨A', c', rfl, hW⟩ := own_wraps HK.out.own HK.out.len.symm
      obtain ⟨y', hy', ht'⟩ := HK.out.part.iface
      have hmem : ∀ x ∈ (ss.map S3.w).take j, x.ok = true ∧ x.mask < 65536 := by
        intro x hx
        obtain ⟨s, hs, rfl⟩ := List.mem_map.1 (List.mem_of_mem_take hx)
        exact ⟨small_ok _ _ _ (HS.out s hs).2.2, by have := small_mask s.a s.b s.c; unfold S3.w; omega⟩
      have hck : checksErr ((ss.map S3.w).take j) = 0 := by
        unfold checksErr
        rw [if_neg (by rw [HK.out.len]; omega), if_pos (List.all_eq_true.2 fun x hx => (hmem x hx).1)]
      have hsN : saysN (PD.kind k).can ((ss.map S3.w).take j) = p.can := by
        unfold saysN
        rw [if_pos hck]
        exact HK.out.able.symm
      have hSA := Says_any (PD.kind k).can c' wr.heap.size hst A' ((ss.map S3.w).take j) wr (Nat.le_refl _) (HT.out _ HK.out.below) hW (fun x hx => (hmem x hx).2)
      rw [hsN, hck] at hSA
      have hIN := fun W (h : Below wr.heap.size wr W) => Inner_part (Nat.le_refl _) (HK.out.part.below h h.size) (by have := HK.out.steps; omega)
      have HSA := Lib.hid hSA
      have HIN := Lib.hid hIN
      subst hy'
      have HJ := Lib.hid hj
      have hjl : ¬ ((j : Int) < ss.length) := by omega
      clear hSA hIN hck hsN hmem hW hj hjn hlt
      generalize p.type = t' at *
      generalize (ss.map S3.w).take j = ws at *
      go_wp2_with (first
        | (go_at_call 13; refine HSA.out.mono ?_; rintro e w7 ⟨rfl, h7⟩)
        | (go_at_call 14; refine (HIN.out _ h7).mono ?_; rintro e w8 ⟨u, rfl, h8⟩)
        | (go_at_call 15; refine (Can_tab ht' _ _).mono ?_; rintro e w9 ⟨rfl, rfl⟩))
      go_ret
      exact ⟨rfl, below_step HK.out.below (below_step h7 h8)⟩
set_option maxRecDepth 100000 in
set_option maxHeartbeats 8000000 in
theorem WrapShows_long (f cap n : Nat) (hf : f < 256) (A : Option Addr) (w : World) (hT : Tabs w) (hl : 16 < n) :
    Calls Tryz.prog 3 #[.int .u8 f, .slice A n cap] w fun e w' => e = .returned (.bool true) ∧ Below w.heap.size w w' := by
  have hl' : (16 : Int) < n := by omega
  have HT := Lib.hid (fun (W' : World) (h : Below w.heap.size w W') => hT.below h)
  have hM := fun a b => Make_fine (nFirst f) (first_fine f) a b w hT
  unfold N.vals nFirst at hM
  dsimp only at hM
  have hk2 : ((1 + f % 10 : Nat) : Int) = 1 + (f : Int) % 10 := by omega
  rw [hk2] at hM
  have HM := Lib.hid hM
  clear hT hM hk2
  generalize 1 + f % 10 = k at *
  go_enter Tryz.func3, Tryz.ntmps3
  go_wp2_with (first
    | (go_at_call 7; refine (HM.out _ _).mono ?_; rintro e w1 ⟨v, rfl, hp, hb⟩; obtain ⟨y, hy, ht⟩ := hp.iface; subst hy; clear hp)
    | (go_at_call 8; refine (alive_any _ (HT.out _ hb)).mono ?_; rintro e w2 ⟨rfl, h2⟩; replace hb := below_step hb h2; clear h2))
  go_ret
  exact ⟨rfl, hb⟩
theorem WrapShows_any (f cap B : Nat) (hf : f < 256) (A : Option Addr) (ss : List S3) (hss : ∀ x ∈ ss, x.byte) (w : World) (hB : B ≤ w.heap.size) (hT : Tabs w) (hA : SmallsAt B w A ss) :
    Calls Tryz.prog 3 #[.int .u8 f, .slice A ss.length cap] w fun e w' => e = .returned (.bool true) ∧ Below w.heap.size w w' := by
  rcases Nat.lt_or_ge 16 ss.length with h | h
  · exact WrapShows_long f cap ss.length hf A w hT h
  · exact WrapShows_short f cap B hf A ss hss w hB hT hA h
end Go.Proofs.YtbhcfopokdcplaaGreatDoor
