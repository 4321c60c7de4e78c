/- Part of the proof of a law: contracts of the functions that the law reaches, or plain laws of them, out of the abstract layer (the texts YtfnfjjgphhoigaaGreatIso..). No condition. -/
import Derived.Test.YtfnfjjgphhoigaaGreatIsoGG
import Derived.Test.YtfnfjjgphhoigaaGreatRows
import Derived.Test.YtfnfjjgphhoigaaGreatW
import Derived.Lib.SmallJoins
import Derived.Deep.Strs
import Derived.Test.YtfnfjjgphhoigaaGreatPb
import Derived.KernelRfl
namespace Go.Proofs.YtfnfjjgphhoigaaGreat
open Go Go.Iso Go.Proofs Go.RowKit Go.ChangeShapes Go.WideShapes Go.ChangeAt
set_option linter.unusedVariables false
set_option linter.unusedSimpArgs false
set_option maxRecDepth 100000
/-! ### Trees as they are read -/
theorem u32_wf {z : Int} (h : (Lit.int .u32 z).wf = true) : 0 ≤ z ∧ z < 4294967296 := by
 simp [Lit.wf, IntKind.min, IntKind.max, IntKind.signed, IntKind.bits] at h; omega
theorem words_rep {H : Type} {enc : TypeId × Value → H} {W : World} {fuel : Nat} {cs : List Value} {x : DataW H × List MemPlace} (h : DataW.trod enc Tryz.prog W 0 (fun _ => true) true fuel 22 cs = some x) :
  ∃ (l : List Int) (c : Value), cs = [c] ∧ RepD (there W) W (slD u32V l) c ∧ ∀ z ∈ l, 0 ≤ z ∧ z < 4294967296 := by
 obtain ⟨l, c, h1, h2, h3⟩ := slice_rep u32V (s := 1) Tryz.underlying22 (by kernel_rfl) (by omega) (fun _ => rfl) (fun z _ => 0 ≤ z ∧ z < 4294967296) (fun n cs' y _ hy => by
  obtain ⟨z, h1, h2⟩ := int_cell Tryz.underlying111 hy
  exact ⟨z, h1, u32_wf h2⟩) h
 refine ⟨l, c, h1, h2, fun z hz => ?_⟩
 rcases h3 with ⟨_, rfl⟩ | ⟨ys, rest, _, hl, hq⟩
 ·cases hz
 ·obtain ⟨i, hi, rfl⟩ := List.mem_iff_getElem.1 hz
  exact hq i hi (by omega)
theorem rat_rep {H : Type} {enc : TypeId × Value → H} {W : World} {fuel : Nat} {cs : List Value} {x : DataW H × List MemPlace} (h : DataW.trod enc Tryz.prog W 0 (fun _ => true) true fuel 24 cs = some x) :
  ∃ r : RatA, RowRep W r.enc cs ∧ r.words := by
 obtain ⟨y0, y1, y2, n, rfl, hl, h0, h1, h2⟩ := Go.Deep.trod_struct3 Tryz.underlying24 h
 have hc : Tryz.prog.cellsOf 24 = 3 := by kernel_rfl
 have hc4 : Tryz.prog.cellsOf 4 = 1 := by kernel_rfl
 have hc36 : Tryz.prog.cellsOf 22 = 1 := by kernel_rfl
 rw [hc] at hl
 match cs, hl with
 | [u, v, w], _ =>
  simp only [hc4, hc36, List.drop_zero, List.take_succ_cons, List.take_zero, List.drop_succ_cons] at h0 h1 h2
  obtain ⟨b, e0, _⟩ := DataW.trod_bool Tryz.underlying4 h0
  obtain ⟨l1, c1, e1, r1, w1⟩ := words_rep h1
  obtain ⟨l2, c2, e2, r2, w2⟩ := words_rep h2
  cases e0; cases e1; cases e2
  refine ⟨⟨b, l1, l2⟩, ⟨rfl, fun j hj => ?_⟩, w1, w2⟩
  match j, hj with
  | 0, _ => exact .val _ rfl
  | 1, _ => exact r1
  | 2, _ => exact r2
theorem bulk_slice {H : Type} {ys rest : List (DataW H)} : Rows.uptoBulk (.slice ys rest) = Rows.uptoBulkAll ys + Rows.uptoBulkAll rest + 1 := by rw [Rows.uptoBulk]
theorem bulk_ge {H : Type} : ∀ {l : List NodeA} {ys : List (DataW H)}, l.length = ys.length → (∀ i (h1 : i < l.length) (h2 : i < ys.length), l[i].size ≤ Rows.uptoBulk ys[i]) → (l.map NodeA.size).sum ≤ Rows.uptoBulkAll ys
 | [], _, _, _ => by simp
 | x :: l, [], h, _ => by simp at h
 | x :: l, y :: ys, h, hq => by
  have h0 := hq 0 (by simp) (by simp)
  have := bulk_ge (l := l) (ys := ys) (by simpa using h) fun i h1 h2 => by
   have := hq (i + 1) (by simpa using h1) (by simpa using h2); simpa using this
  rw [Rows.uptoBulkAll, List.map_cons, List.sum_cons]
  simp at h0; omega
theorem node_row {H : Type} {enc : TypeId × Value → H} {W : World} : ∀ (fuel : Nat) (cs : List Value) (x : DataW H × List MemPlace), DataW.trod enc Tryz.prog W 0 (fun _ => true) true fuel 27 cs = some x →
  ∃ n : NodeA, RowRep W n.enc cs ∧ n.words ∧ n.size ≤ Rows.uptoBulk x.1 := by
 intro fuel
 induction fuel using Nat.strongRecOn with
 | _ fuel ih =>
  intro cs x h
  obtain ⟨xs, n, hfu, rfl, hl, hlen, hfs⟩ := DataW.trod_struct Tryz.underlying27 h
  have hc : Tryz.prog.cellsOf 27 = 6 := by kernel_rfl
  have hc1 : Tryz.prog.cellsOf 3 = 1 := by kernel_rfl
  have hc2 : Tryz.prog.cellsOf 9 = 1 := by kernel_rfl
  have hc3 : Tryz.prog.cellsOf 24 = 3 := by kernel_rfl
  have hc4 : Tryz.prog.cellsOf 25 = 1 := by kernel_rfl
  rw [hc] at hl
  match xs, hlen with
  | [y0, y1, y2, y3], _ =>
  match cs, hl with
  | [u0, u1, u2, u3, u4, u5], _ =>
   have h0 := hfs 0 _ rfl
   have h1 := hfs 1 _ rfl
   have h2 := hfs 2 _ rfl
   have h3 := hfs 3 _ rfl
   simp only [hc1, hc2, hc3, hc4, List.drop_zero, List.take_succ_cons, List.take_zero, List.drop_succ_cons, List.getElem?_cons_zero, List.getElem?_cons_succ] at h0 h1 h2 h3
   obtain ⟨z, e0, _, _⟩ := DataW.trod_int Tryz.underlying3 h0
   obtain ⟨s, e1, _, hs⟩ := DataW.trod_string Tryz.underlying9 h1
   obtain ⟨r, r2, w2⟩ := rat_rep h2
   obtain ⟨l, c, e3, r3, q3⟩ := slice_rep NodeA.enc (s := 6) Tryz.underlying25 (by kernel_rfl) (by omega) NodeA.enc_len (fun k y => k.words ∧ k.size ≤ Rows.uptoBulk y) (fun m cs' y hm hy => ih m (by omega) cs' y hy) h3
   cases e0; cases e1; cases e3
   refine ⟨.mk z s r l, ⟨by rw [NodeA.enc_mk]; rfl, fun j hj => ?_⟩, ?_, ?_⟩
   ·have hr := r2.2
    have e : (NodeA.mk z s r l).enc = [.val (.int .i64 z), .val (.string s), .val (.bool r.neg), slD u32V r.num, slD u32V r.den, slD NodeA.enc l] := NodeA.enc_mk
    have hj6 : j < 6 := by rw [e] at hj; exact hj
    have key : ∀ (ds : List D), ds = (NodeA.mk z s r l).enc → ∀ hj : j < ds.length, RepD (there W) W ds[j] ([Value.int .i64 z, .string s, u2, u3, u4, u5].getD j undef) := by
     intro ds hd hj
     rw [e] at hd; subst hd
     match j, hj6 with
     | 0, _ => exact .val _ rfl
     | 1, _ => exact .val _ (by rw [maxLen_eq] at hs; simpa [okVal] using hs)
     | 2, _ => exact hr 0 (by simp [RatA.enc])
     | 3, _ => exact hr 1 (by simp [RatA.enc])
     | 4, _ => exact hr 2 (by simp [RatA.enc])
     | 5, _ => exact r3
    exact key _ rfl hj
   ·rw [NodeA.words_mk]
    refine ⟨w2, fun k hk => ?_⟩
    rcases q3 with ⟨_, rfl⟩ | ⟨ys, rest, _, hl3, hq⟩
    ·cases hk
    ·obtain ⟨i, hi, rfl⟩ := List.mem_iff_getElem.1 hk
     exact (hq i hi (by omega)).1
   ·rw [NodeA.size_mk]
    simp only [List.map_cons, List.map_nil]
    rw [Rows.uptoBulk]
    simp only [Rows.uptoBulkAll]
    rcases q3 with ⟨_, rfl⟩ | ⟨ys, rest, e4, hl3, hq⟩
    ·simp
    ·have := bulk_ge hl3 fun i h1 h2 => (hq i h1 h2).2
     rw [e4, bulk_slice]; omega
theorem node_rep {H : Type} {enc : TypeId × Value → H} {W : World} {base : Nat} {v : Value} {d : DataW H} {ps : List MemPlace} (hval : Value.okWide Tryz.prog W .any base 27 v) (h : DataW.Trod enc Tryz.prog W 0 (fun _ => true) true 27 v d ps) :
  ∃ n : NodeA, RepV (fun _ => none) (there W) W (aggV n.enc) v ∧ n.words ∧ n.size ≤ Rows.uptoBulk d := by
 obtain ⟨cs, rfl, hs⟩ := okWide_struct Tryz.underlying27 hval
 obtain ⟨fuel, hf⟩ := h
 obtain ⟨n, h1, h2, h3⟩ := node_row fuel _ _ hf
 obtain ⟨cs⟩ := cs
 refine ⟨n, .agg (by have := h1.1; simp only [Value.cells] at this; simp [this]) fun i hi => ?_, h2, h3⟩
 have := h1.2 i (by simpa using hi)
 simp only [Value.cells] at this
 rw [List.getElem_map]
 refine .d ?_
 simpa [Array.getD_eq_getD_getElem?, List.getD_eq_getElem?_getD] using this
end Go.Proofs.YtfnfjjgphhoigaaGreat
namespace Go.Proofs.YtfnfjjgphhoigaaGreat
open Go Go.Iso Go.Proofs
set_option linter.unusedSimpArgs false
set_option linter.unusedVariables false
set_option maxRecDepth 100000
/-! ### Operators -/
def sortS (p0 : Int) : Int :=
 if (decide (1 ≤ p0) && decide (p0 ≤ 13)) then 1 else if (decide (20 ≤ p0) && decide (p0 ≤ 39)) then 2 else if (p0 == 55 || p0 == 56) then 4 else if (decide (50 ≤ p0) && decide (p0 ≤ 62)) then 3 else 0
theorem tree_Sort_eq {K : Nat} {op : Int} : tree_Sort K op = some (sortS op) := by
 unfold tree_Sort sortS; simp only [andO, orO, Option.bind_some, ifOI]
theorem r08_Sort_eq {K : Nat} {op : Int} : r08_Sort K op = some (sortS op) := by
 unfold r08_Sort sortS; simp only [andO, orO, Option.bind_some, ifOI]
theorem sort_range {op : Int} (h : sortS op ≠ 0) : ∃ k : Nat, k < 63 ∧ op = k := by
 refine ⟨op.toNat, ?_, ?_⟩ <;>
 ·have : 1 ≤ op ∧ op ≤ 62 := by
   apply Classical.byContradiction
   intro hc
   apply h
   unfold sortS
   have e1 : (decide (1 ≤ op) && decide (op ≤ 13)) = false := by simp; omega
   have e2 : (decide (20 ≤ op) && decide (op ≤ 39)) = false := by simp; omega
   have e3 : (op == 55 || op == 56) = false := by simp; omega
   have e4 : (decide (50 ≤ op) && decide (op ≤ 62)) = false := by simp; omega
   rw [e1, e2, e3, e4]; rfl
  omega
def namedS (op : Int) : Bool := (tree_shape 0 op).all (·.1)
def sortsS (op : Int) : Option (List Int) := (tree_shape 0 op).bind (·.2)
theorem tree_shape_eq {K : Nat} {op : Int} : tree_shape K op = some (namedS op, sortsS op) := by
 have e : ∃ r, tree_shape 0 op = some r := by
  unfold tree_shape; simp only [andO, orO, orO', Option.bind_some, ifOP, ifOO, outM_eq, finIf, finIf', Out.fin_go, Out.fin_out]
  repeat' (first | exact ⟨_, rfl⟩ | split)
 obtain ⟨r, h⟩ := e
 have e2 : tree_shape K op = tree_shape 0 op := rfl
 unfold namedS sortsS
 rw [e2, h]; rfl
def namB (op : Int) : Bool := (r08_named 0 op).all id
def kidB (op : Int) : ByteArray := (r08_kids 0 op).getD ⟨#[]⟩
theorem r08_named_eq {K : Nat} {op : Int} : r08_named K op = some (namB op) := by
 have e : ∃ r, r08_named 0 op = some r := by
  unfold r08_named; simp only [andO, orO, orO', Option.bind_some]
  repeat' (first | exact ⟨_, rfl⟩ | split)
 obtain ⟨r, h⟩ := e
 have e2 : r08_named K op = r08_named 0 op := rfl
 unfold namB
 rw [e2, h]; rfl
theorem r08_kids_eq {K : Nat} {op : Int} : r08_kids K op = some (kidB op) := by
 have e : ∃ r, r08_kids 0 op = some r := by
  unfold r08_kids; simp only [andO, orO, orO', Option.bind_some, ifOS]
  repeat' (first | exact ⟨_, rfl⟩ | split)
 obtain ⟨r, h⟩ := e
 have e2 : r08_kids K op = r08_kids 0 op := rfl
 unfold kidB
 rw [e2, h]; rfl
def tabB (k : Int) : Bool := sortS k == 0 || (namB k == (namedS k || (k == 10 || k == 37)) && ((kidB k).toList.map (fun c => (c.toNat : Int) - 48) == (sortsS k).getD []) && ((kidB k).toList.all fun c => decide (48 ≤ c.toNat) && decide (c.toNat ≤ 57)) &&
 (!(k == 10 || k == 37 || k == 54) || sortsS k == none && !namedS k) && (!(k == 39) || sortsS k == some [2]) && (!(k == 8 || k == 9) || sortsS k == some [1, 1]) && (!(k == 12) || sortsS k == some [1]) && ((sortsS k).getD []).all (fun s => s != 0))
theorem tab_all : ((List.range 63).all fun k => tabB (k : Int)) = true := by decide +kernel
theorem tab {op : Int} (h : sortS op ≠ 0) : namB op = (namedS op || (op == 10 || op == 37)) ∧ (kidB op).toList.map (fun c => (c.toNat : Int) - 48) = (sortsS op).getD [] ∧ (∀ c ∈ (kidB op).toList, 48 ≤ c.toNat ∧ c.toNat ≤ 57) ∧
  ((op == 10 || op == 37 || op == 54) = true → sortsS op = none ∧ namedS op = false) ∧ (op = 39 → sortsS op = some [2]) ∧ ((op == 8 || op == 9) = true → sortsS op = some [1, 1]) ∧ (op = 12 → sortsS op = some [1]) ∧ (∀ s ∈ (sortsS op).getD [], s ≠ 0) := by
 obtain ⟨k, hk, rfl⟩ := sort_range h
 have := List.all_eq_true.1 tab_all k (List.mem_range.2 hk)
 generalize (k : Int) = op at *
 unfold tabB at this
 have h0 : (sortS op == 0) = false := beq_eq_false_iff_ne.2 h
 rw [h0, Bool.false_or] at this
 simp only [Bool.and_eq_true] at this
 obtain ⟨⟨⟨⟨⟨⟨⟨h1, h2⟩, h3⟩, h4⟩, h5⟩, h6⟩, h7⟩, h8⟩ := this
 refine ⟨eq_of_beq h1, eq_of_beq h2, fun c hc => ?_, fun ho => ?_, fun ho => ?_, fun ho => ?_, fun ho => ?_, fun s hs => ?_⟩
 ·have := List.all_eq_true.1 h3 c hc
  simpa using this
 ·rw [ho] at h4
  simp only [Bool.not_true, Bool.false_or, Bool.and_eq_true, Bool.not_eq_true'] at h4
  exact ⟨eq_of_beq h4.1, h4.2⟩
 ·have : (op == 39) = true := by simp [ho]
  rw [this] at h5; simpa using h5
 ·rw [ho] at h6; simpa using h6
 ·have : (op == 12) = true := by simp [ho]
  rw [this] at h7; simpa using h7
 ·have := List.all_eq_true.1 h8 s hs
  simpa using this
/-! ### Names -/
def letB (z : Int) : Bool := decide (97 ≤ z) && decide (z ≤ 122) || decide (65 ≤ z) && decide (z ≤ 90)
theorem tree_letter_eq {K : Nat} {z : Int} : tree_letter K z = some (letB z) := by
 unfold tree_letter letB
 cases decide (97 ≤ z) <;> cases decide (z ≤ 122) <;> cases decide (65 ≤ z) <;> rfl
theorem r08_letter_eq {K : Nat} {z : Int} : r08_letter K z = some (letB z) := by
 unfold r08_letter letB
 cases decide (97 ≤ z) <;> cases decide (z ≤ 122) <;> cases decide (65 ≤ z) <;> rfl
def digB (z : Int) : Bool := !(decide (z < 48) || decide (57 < z))
abbrev kw (s : ByteArray) : Bool := (s.toList == (⟨#[116, 114, 117, 101]⟩ : ByteArray).toList || (s.toList == (⟨#[102, 97, 108, 115, 101]⟩ : ByteArray).toList || (s.toList == (⟨#[102, 111, 114, 97, 108, 108]⟩ : ByteArray).toList || s.toList == (⟨#[101, 120, 105, 115, 116, 115]⟩ : ByteArray).toList)))
def nameB (s : ByteArray) : Bool :=
 !(((s.size : Int) == 0) || (decide (12 < (s.size : Int)) || kw s)) && (List.range s.size).all fun i => (s[i]?).all fun c => letB c.toNat || !((i : Int) == 0) && digB c.toNat
theorem strAt_get {s : ByteArray} {i : Nat} (h : i < s.size) : strAt s (i : Int) = some s[i] ∧ s[i]? = some s[i] := by
 rw [strAt_nat]; exact ⟨getElem?_pos s i h, getElem?_pos s i h⟩
theorem r08_Name_eq {K : Nat} {s : ByteArray} (hK : 12 < K) : r08_Name K s = some (nameB s) := by
 unfold r08_Name
 simp only [orO, Option.bind_some, outM_eq, finIf, ifOO]
 unfold nameB
 cases hb : (((s.size : Int) == 0) || (decide (12 < (s.size : Int)) || kw s)) with
 | true => simp only [if_true, Bool.not_true, Bool.false_and]
 | false =>
  have hs : s.size ≤ 12 := by
   have : decide (12 < (s.size : Int)) = false := by revert hb; cases decide (12 < (s.size : Int)) <;> cases ((s.size : Int) == 0) <;> simp
   simp at this; omega
  simp only [Bool.false_eq_true, if_false, Bool.not_false, Bool.true_and]
  refine ob _ (scanG s.size (fun i => (i : Int)) (fun i => (s[i]?).all fun c => letB c.toNat || !((i : Int) == 0) && digB c.toNat) false () (fun g i hi => ?_) (fun g => ?_) (by omega) rfl) ?_
  ·obtain ⟨h1, h2⟩ := strAt_get hi
   have hd : decide ((i : Int) < (s.size : Int)) = true := by simp; omega
   simp only [hd, if_true, h1, h2, Option.bind_some, r08_letter_eq, Option.all_some]
   simp only [orO, orO', andO, Option.bind_some, outM_eq]
   rw [w64s (by omega)]
   unfold digB
   cases letB (s[i].toNat : Int) <;> cases ((i : Int) == 0) <;> cases decide ((s[i].toNat : Int) < 48) <;> cases decide (57 < (s[i].toNat : Int)) <;> rfl
  ·have hd : decide ((s.size : Int) < (s.size : Int)) = false := by simp
   simp only [hd, Bool.false_eq_true, if_false]
  ·cases (List.range s.size).all fun i => (s[i]?).all fun c => letB c.toNat || !((i : Int) == 0) && digB c.toNat <;> rfl
theorem tree_Name_eq {K : Nat} {s : ByteArray} (hK : 12 < K) : tree_Name K s = some (nameB s) := by
 unfold tree_Name
 have hkw : ∀ {x y : Option Bool}, (if (s.toList == (⟨#[116, 114, 117, 101]⟩ : ByteArray).toList) = true then x else y) = (if (s.toList == (⟨#[116, 114, 117, 101]⟩ : ByteArray).toList) = true then x else y) := rfl
 simp only [tree_letter_eq, Option.bind_some, orO']
 unfold nameB
 by_cases h0 : s.size = 0
 ·have e : ((s.size : Int) == 0) = true := by simp [h0]
  simp only [e, if_true, Option.bind_some, outM_eq, Out.fin_out, Bool.true_or, Bool.not_true, Bool.false_and]
 have e0 : ((s.size : Int) == 0) = false := int_ne0 h0
 by_cases h1 : 12 < s.size
 ·have e : decide (12 < (s.size : Int)) = true := by simp; omega
  simp only [e0, e, if_true, Bool.false_eq_true, if_false, Option.bind_some, outM_eq, Out.fin_out, Bool.true_or, Bool.or_true, Bool.not_true, Bool.false_and]
 have e1 : decide (12 < (s.size : Int)) = false := by simp; omega
 obtain ⟨g1, g2⟩ := strAt_get (s := s) (i := 0) (by omega)
 have g1' : strAt s 0 = some s[0] := g1
 simp only [e0, e1, Bool.false_eq_true, if_false, g1', Option.bind_some, Bool.false_or]
 cases hl : letB (s[0].toNat : Int) with
 | false =>
  simp only [Bool.not_false, if_true, outM_eq, Option.bind_some, Out.fin_out]
  have : ((List.range s.size).all fun i => (s[i]?).all fun c => letB c.toNat || !((i : Int) == 0) && digB c.toNat) = false := by
   rw [List.all_eq_false]
   refine ⟨0, List.mem_range.2 (by omega), ?_⟩
   rw [g2, Option.all_some, hl]; simp
  rw [this, Bool.and_false]
 | true =>
  simp only [Bool.not_true, Bool.false_eq_true, if_false, Option.bind_some, Out.fin_go]
  refine ob _ (scanG s.size (fun i => (i : Int)) (fun i => (s[i]?).all fun c => letB c.toNat || digB c.toNat) false () (fun g i hi => ?_) (fun g => ?_) (by omega) rfl) ?_
  ·obtain ⟨h1, h2⟩ := strAt_get hi
   have hd : decide ((i : Int) < (s.size : Int)) = true := by simp; omega
   simp only [hd, if_true, h1, h2, Option.bind_some, Option.all_some]
   rw [w64s (by omega)]
   unfold digB
   cases letB (s[i].toNat : Int) <;> cases decide ((s[i].toNat : Int) < 48) <;> cases decide (57 < (s[i].toNat : Int)) <;> rfl
  ·have hd : decide ((s.size : Int) < (s.size : Int)) = false := by simp
   simp only [hd, Bool.false_eq_true, if_false]
  ·have e2 : ((List.range s.size).all fun i => (s[i]?).all fun c => letB c.toNat || digB c.toNat) = (List.range s.size).all fun i => (s[i]?).all fun c => letB c.toNat || !((i : Int) == 0) && digB c.toNat := by
    rw [Bool.eq_iff_iff, List.all_eq_true, List.all_eq_true]
    refine forall_congr' fun i => forall_congr' fun hi => ?_
    obtain ⟨_, h2⟩ := strAt_get (List.mem_range.1 hi)
    rw [h2, Option.all_some, Option.all_some]
    by_cases hi0 : i = 0
    ·subst hi0; rw [hl]; simp
    ·have : ((i : Int) == 0) = false := by simp; omega
     rw [this]; simp
   rw [e2]
   cases (List.range s.size).all fun i => (s[i]?).all fun c => letB c.toNat || !((i : Int) == 0) && digB c.toNat with
   | false => simp [Out.fin]
   | true =>
    simp only [if_true, Out.fin_go, orO, Option.bind_some, Bool.and_true, e0, e1, Bool.false_or]
    unfold kw
    generalize (s.toList == _ || (s.toList == _ || (s.toList == _ || s.toList == _))) = q
    cases q <;> rfl
/-! ### Numbers -/
def natS (r : RatA) : Bool := !r.neg && r.den == [1] && decide (r.num.length ≤ 20) && (r.num.getLast?).all (· != 0)
theorem last_idx {l : List Int} (h : l.length ≠ 0) (hl : l.length ≤ 9223372036854775807) : idx l (IntKind.wrap .i64 ((l.length : Int) - 1)) = l.getLast? := by
 have e : IntKind.wrap .i64 ((l.length : Int) - 1) = ((l.length - 1 : Nat) : Int) := by rw [w64 (by omega) (by omega)]; omega
 rw [e, idx_nat, List.getLast?_eq_getElem?]
theorem num_valid_eq {K : Nat} {l : List Int} {m : Int} (hm : m ≤ 10000) : num_valid K l m = some (decide ((l.length : Int) ≤ m) && (l.getLast?).all (· != 0)) := by
 unfold num_valid
 by_cases h : (l.length : Int) ≤ m
 ·rw [decide_eq_true h, if_pos rfl]
  by_cases h0 : l.length = 0
  ·have : l = [] := List.eq_nil_of_length_eq_zero h0
   subst this; rfl
  ·have e : ((l.length : Int) == 0) = false := int_ne0 h0
   rw [e, last_idx h0 (by omega)]
   cases hx : l.getLast? with
   | none => simp at hx; subst hx; simp at h0
   | some x => simp
 ·rw [decide_eq_false h]; simp
theorem num_Valid_eq {K : Nat} {r : RatA} (hd : r.den = [1]) (hn : r.neg = false) : num_Valid K r 4096 = some (decide ((r.num.length : Int) ≤ 4096) && (r.num.getLast?).all (· != 0)) := by
 unfold num_Valid
 have i0 : idx ([1] : List Int) 0 = some 1 := rfl
 simp only [num_valid_eq (show (4096 : Int) ≤ 10000 by omega), hd, hn, i0, Option.bind_some]
 generalize (decide ((r.num.length : Int) ≤ 4096) && (r.num.getLast?).all (· != 0)) = b
 cases b with
 | false => simp [outM, Out.fin]
 | true => cases hq : ((r.num.length : Int) == 0) <;> simp [outM, Out.fin]
theorem tree_natural_eq {K : Nat} {r : RatA} : tree_natural K r = some (natS r) := by
 unfold tree_natural natS
 cases hn : r.neg with
 | true => simp
 | false =>
  simp only [Bool.not_false, if_true, Bool.true_and]
  by_cases hd : r.den.length = 1
  ·obtain ⟨d, hd⟩ := List.length_eq_one_iff.1 hd
   have i0 : idx ([d] : List Int) 0 = some d := rfl
   simp only [hd, i0, Option.bind_some, List.length_singleton]
   by_cases h1 : d = 1
   ·subst h1
    have e : rat_Valid K r = some (decide ((r.num.length : Int) ≤ 4096) && (r.num.getLast?).all (· != 0)) := by
     unfold rat_Valid; rw [num_Valid_eq hd hn]; rfl
    by_cases h2 : r.num.length ≤ 20
    ·have e2 : decide ((r.num.length : Int) ≤ 20) = true := by simp; omega
     have e3 : decide ((r.num.length : Int) ≤ 4096) = true := by simp; omega
     simp [e, e2, e3, h2]
    ·have e2 : decide ((r.num.length : Int) ≤ 20) = false := by simp; omega
     simp [e2, h2]
   ·simp [h1]
  ·have e : ((r.den.length : Int) == 1) = false := by simp; omega
   have : (r.den == [1]) = false := by
    rw [beq_eq_false_iff_ne]; rintro h; rw [h] at hd; exact hd rfl
   rw [e, this]; simp
theorem r08_natural_eq {K : Nat} {r : RatA} : r08_natural K r = some (natS r) := by
 unfold r08_natural natS
 cases hn : r.neg with
 | true => simp [outM, Out.fin]
 | false =>
  simp only [Bool.not_false, Bool.false_eq_true, if_false, Bool.true_and]
  by_cases hd : r.den.length = 1
  ·obtain ⟨d, hd⟩ := List.length_eq_one_iff.1 hd
   have i0 : idx ([d] : List Int) 0 = some d := rfl
   simp only [hd, i0, Option.bind_some, List.length_singleton]
   by_cases h1 : d = 1
   ·subst h1
    by_cases h2 : r.num.length ≤ 20
    ·have e2 : decide ((20 : Int) < (r.num.length : Int)) = false := by simp; omega
     by_cases h0 : r.num.length = 0
     ·have : r.num = [] := List.eq_nil_of_length_eq_zero h0
      simp [e2, this, Out.fin]
     ·have e : ((r.num.length : Int) == 0) = false := int_ne0 h0
      cases hx : r.num.getLast? with
      | none => simp at hx; rw [hx] at h0; simp at h0
      | some x => simp [e2, e, last_idx h0 (by omega), hx, Out.fin, h2]
    ·have e2 : decide ((20 : Int) < (r.num.length : Int)) = true := by simp; omega
     simp [e2, h2, outM, Out.fin]
   ·simp [h1, outM, Out.fin]
  ·have e : ((r.den.length : Int) != 1) = true := by simp; omega
   have : (r.den == [1]) = false := by
    rw [beq_eq_false_iff_ne]; rintro h; rw [h] at hd; exact hd rfl
   rw [e, this]; simp [outM, Out.fin]
/-! ### Well-formed trees -/
def diffS : NodeA → Bool
 | .mk op _ _ kids => (op == 20 || (op == 21 || (op == 22 || (op == 23 || (op == 24 || (op == 25 || (op == 26 || (op == 27 || (op == 37 || op == 38))))))))) || (op == 29 || op == 30) && kids.attach.all fun ⟨k, _⟩ => diffS k
termination_by n => SizeOf.sizeOf n
decreasing_by exact NodeA.size_kid (by assumption)
def primS : NodeA → Bool
 | .mk op _ _ kids => (op == 3 || (op == 12 || op == 39)) || kids.attach.any fun ⟨k, _⟩ => primS k
termination_by n => SizeOf.sizeOf n
decreasing_by exact NodeA.size_kid (by assumption)
theorem diffS_eq (n : NodeA) : diffS n = ((n.op == 20 || (n.op == 21 || (n.op == 22 || (n.op == 23 || (n.op == 24 || (n.op == 25 || (n.op == 26 || (n.op == 27 || (n.op == 37 || n.op == 38))))))))) || (n.op == 29 || n.op == 30) && n.kids.all diffS) := by
 cases n with | mk o m r ks => rw [diffS]; simp [NodeA.op, NodeA.kids]
theorem primS_eq (n : NodeA) : primS n = ((n.op == 3 || (n.op == 12 || n.op == 39)) || n.kids.any primS) := by
 cases n with | mk o m r ks => rw [primS]; simp [NodeA.op, NodeA.kids]
theorem scan_kids {R : Type} {n : NodeA} {K : Nat} (hK : n.size ≤ K) (hb : n.size ≤ 4611686018427387904) (p : NodeA → Bool) (r : R) {f : (Int → Option (Out Unit R)) → Int → Option (Out Unit R)}
  (h1 : ∀ g (i : Nat) (x : NodeA), x ∈ n.kids → n.kids[i]? = some x → f g (i : Int) = if p x then g (IntKind.wrap .i64 ((i : Int) + 1)) else some (.out r))
  (h2 : ∀ g, f g (n.kids.length : Int) = some (.go ())) : iter K f 0 = some (if n.kids.all p then .go () else .out r) := by
 have hl := n.kids_lt
 have := scanG n.kids.length (fun i => (i : Int)) (fun i => (n.kids[i]?).all p) r () (f := f) (fun g i hi => by
  have hx : n.kids[i]? = some n.kids[i] := List.getElem?_eq_getElem hi
  rw [h1 g i _ (List.getElem_mem hi) hx, hx, w64s (by omega)]; rfl) h2 (K := K) (by omega) rfl
 rw [range_all] at this
 exact this
theorem lt_t {l : List NodeA} {i : Nat} {x : NodeA} (h : l[i]? = some x) : decide ((i : Int) < (l.length : Int)) = true := by
 have := (List.getElem?_eq_some_iff.1 h).1; simp; omega
theorem lt_f {k : Nat} : decide ((k : Int) < (k : Int)) = false := by simp
theorem tree_diff_eq {K : Nat} : ∀ (k : Nat) (n : NodeA), n.size ≤ k → n.size ≤ K → n.size ≤ 4611686018427387904 → iter k (fun self q => tree_differentiable_body K self q) n = some (diffS n) := by
 intro k
 induction k with
 | zero => intro n h; have := n.size_pos; omega
 | succ k ih =>
  intro n h hK hb
  rw [iter_succ, diffS_eq]
  generalize iter k (fun self q => tree_differentiable_body K self q) = S at ih ⊢
  unfold tree_differentiable_body
  simp only [orO', Option.bind_some]
  generalize (n.op == 20 || (n.op == 21 || (n.op == 22 || (n.op == 23 || (n.op == 24 || (n.op == 25 || (n.op == 26 || (n.op == 27 || (n.op == 37 || n.op == 38))))))))) = a
  generalize (n.op == 29 || n.op == 30) = b
  cases a with
  | true => rfl
  | false =>
   cases b with
   | false => rfl
   | true =>
    simp only [Bool.false_eq_true, if_false, if_true, Bool.false_or, Bool.true_and]
    refine ob _ (scan_kids hK hb diffS false (fun g i x hm hx => ?_) (fun g => ?_)) ?_
    ·have hs := NodeA.size_lt hm
     simp only [lt_t hx, if_true, idx_nat, hx, Option.bind_some, ih x (by omega) (by omega) (by omega), outM_eq]
     cases diffS x <;> rfl
    ·simp only [lt_f, Bool.false_eq_true, if_false]
    ·cases n.kids.all diffS <;> rfl
theorem tree_differentiable_eq {K : Nat} {n : NodeA} (hK : n.size ≤ K) (hb : n.size ≤ 4611686018427387904) : tree_differentiable K n = some (diffS n) := tree_diff_eq K n hK hK hb
theorem r08_diff_eq {K : Nat} : ∀ (k : Nat) (n : NodeA), n.size ≤ k → n.size ≤ K → n.size ≤ 4611686018427387904 → iter k (fun self q => r08_differential_body K self q) n = some (diffS n) := by
 intro k
 induction k with
 | zero => intro n h; have := n.size_pos; omega
 | succ k ih =>
  intro n h hK hb
  rw [iter_succ, diffS_eq]
  generalize iter k (fun self q => r08_differential_body K self q) = S at ih ⊢
  unfold r08_differential_body
  have e : (n.op == 20 || (n.op == 21 || (n.op == 22 || (n.op == 23 || (n.op == 24 || (n.op == 25 || (n.op == 26 || (n.op == 27 || (n.op == 37 || n.op == 38))))))))) = (n.op == 20 || (n.op == 21 || (decide (22 ≤ n.op) && decide (n.op ≤ 27) || (n.op == 37 || n.op == 38)))) := by
   rw [Bool.eq_iff_iff]; simp; omega
  rw [e]
  have e2 : ∀ {b c : Bool}, (if decide (22 ≤ n.op) = true then if decide (n.op ≤ 27) = true then some true else if b = true then some true else some c else if b = true then some true else some c) = some (decide (22 ≤ n.op) && decide (n.op ≤ 27) || (b || c)) := by
   intro b c; cases decide (22 ≤ n.op) <;> cases decide (n.op ≤ 27) <;> cases b <;> rfl
  simp only [e2]
  simp only [orO, Option.bind_some]
  generalize (n.op == 20 || (n.op == 21 || (decide (22 ≤ n.op) && decide (n.op ≤ 27) || (n.op == 37 || n.op == 38)))) = a
  generalize (n.op == 29 || n.op == 30) = b
  cases a with
  | true => rfl
  | false =>
   cases b with
   | false => rfl
   | true =>
    simp only [Bool.false_eq_true, if_false, if_true, Bool.false_or, Bool.true_and]
    refine ob _ (scan_kids hK hb diffS false (fun g i x hm hx => ?_) (fun g => ?_)) ?_
    ·have hs := NodeA.size_lt hm
     simp only [lt_t hx, if_true, idx_nat, hx, Option.bind_some, ih x (by omega) (by omega) (by omega), outM_eq]
     cases diffS x <;> rfl
    ·simp only [lt_f, Bool.false_eq_true, if_false]
    ·cases n.kids.all diffS <;> rfl
theorem r08_differential_eq {K : Nat} {n : NodeA} (hK : n.size ≤ K) (hb : n.size ≤ 4611686018427387904) : r08_differential K n = some (diffS n) := r08_diff_eq K n hK hK hb
theorem r08_prim_eq {K : Nat} : ∀ (k : Nat) (n : NodeA), n.size ≤ k → n.size ≤ K → n.size ≤ 4611686018427387904 → iter k (fun self q => r08_primed_body K self q) n = some (primS n) := by
 intro k
 induction k with
 | zero => intro n h; have := n.size_pos; omega
 | succ k ih =>
  intro n h hK hb
  rw [iter_succ, primS_eq]
  generalize iter k (fun self q => r08_primed_body K self q) = S at ih ⊢
  unfold r08_primed_body
  simp only [orO, Option.bind_some]
  generalize (n.op == 3 || (n.op == 12 || n.op == 39)) = a
  cases a with
  | true => rfl
  | false =>
   simp only [Bool.false_eq_true, if_false, Option.bind_some, Out.fin_go, Bool.false_or]
   refine ob _ (scan_kids hK hb (fun x => !primS x) true (fun g i x hm hx => ?_) (fun g => ?_)) ?_
   ·have hs := NodeA.size_lt hm
    simp only [lt_t hx, if_true, idx_nat, hx, Option.bind_some, ih x (by omega) (by omega) (by omega), outM_eq]
    cases primS x <;> rfl
   ·simp only [lt_f, Bool.false_eq_true, if_false]
   ·have : (n.kids.all fun x => !primS x) = !n.kids.any primS := by rw [List.not_any_eq_all_not]
    rw [this]
    cases n.kids.any primS <;> rfl
theorem r08_primed_eq {K : Nat} {n : NodeA} (hK : n.size ≤ K) (hb : n.size ≤ 4611686018427387904) : r08_primed K n = some (primS n) := r08_prim_eq K n hK hK hb
abbrev big : Nat := 1099511627776
/-! ### Size, Levels, within -/
theorem sum_take {α : Type} {l : List α} {f : α → Nat} {i : Nat} {x : α} (h : l[i]? = some x) : ((l.take (i + 1)).map f).sum = ((l.take i).map f).sum + f x := by
 rw [List.take_add_one, h]; simp
theorem sum_take_le {α : Type} {l : List α} {f : α → Nat} : ∀ {i : Nat}, ((l.take i).map f).sum ≤ (l.map f).sum := by
 induction l with
 | nil => intro i; simp
 | cons x l ih => intro i; cases i with
  | zero => simp
  | succ i => rw [List.take_succ_cons, List.map_cons, List.map_cons, List.sum_cons, List.sum_cons]; have := ih (i := i); omega
theorem Size_iter {K : Nat} : ∀ (k : Nat) (n : NodeA), n.size ≤ k → n.size ≤ K → n.size ≤ big → iter k (fun self q => r08_Size_body K self q) n = some (n.size : Int) := by
 intro k
 induction k with
 | zero => intro n h; have := n.size_pos; omega
 | succ k ih =>
  intro n h hK hb
  rw [iter_succ]
  generalize iter k (fun self q => r08_Size_body K self q) = S at ih ⊢
  unfold r08_Size_body
  have hl := n.kids_lt
  have hsz : n.size = 1 + (n.kids.map NodeA.size).sum := by cases n with | mk o m r ks => rw [NodeA.size_mk]; rfl
  have hb' : n.size ≤ 1099511627776 := hb
  refine ob _ (foldG n.kids.length (fun i => (((1 + ((n.kids.take i).map NodeA.size).sum : Nat) : Int), (i : Int))) (n.size : Int) (fun g i hi => ?_) (fun g => ?_) (by omega) rfl) rfl
  ·have hx : n.kids[i]? = some n.kids[i] := List.getElem?_eq_getElem hi
   have hm := List.getElem_mem hi
   have hs := NodeA.size_lt hm
   have h1 := sum_take (f := NodeA.size) hx
   have h2 := sum_take_le (l := n.kids) (f := NodeA.size) (i := i + 1)
   simp only [lt_t hx, if_true, idx_nat, hx, Option.bind_some, ih _ (show n.kids[i].size ≤ k by omega) (by omega) (by omega)]
   rw [w64s (by omega), w64 (by omega) (by omega), h1]
   congr 2
   omega
  ·simp only [lt_f, Bool.false_eq_true, if_false, List.take_length, hsz]
theorem r08_Size_eq {K : Nat} {n : NodeA} (hK : n.size ≤ K) (hb : n.size ≤ big) : r08_Size K n = some (n.size : Int) := Size_iter K n hK hK hb
theorem lev_eq (n : NodeA) : n.lev = 1 + (n.kids.map NodeA.lev).foldl max 0 := by cases n with | mk o m r ks => rw [NodeA.lev_mk]; rfl
theorem Levels_iter {K : Nat} : ∀ (k : Nat) (n : NodeA), n.size ≤ k → n.size ≤ K → n.size ≤ big → iter k (fun self q => r08_Levels_body K self q) n = some (n.lev : Int) := by
 intro k
 induction k with
 | zero => intro n h; have := n.size_pos; omega
 | succ k ih =>
  intro n h hK hb
  rw [iter_succ]
  generalize iter k (fun self q => r08_Levels_body K self q) = S at ih ⊢
  unfold r08_Levels_body
  have hl := n.kids_lt
  have hll := n.lev_le_size
  have hb' : n.size ≤ 1099511627776 := hb
  refine ob (((n.kids.map NodeA.lev).foldl max 0 : Nat) : Int) (foldG n.kids.length (fun i => (((((n.kids.take i).map NodeA.lev).foldl max 0 : Nat) : Int), (i : Int))) _ (fun g i hi => ?_) (fun g => ?_) (by omega) rfl) ?_
  ·have hx : n.kids[i]? = some n.kids[i] := List.getElem?_eq_getElem hi
   have hm := List.getElem_mem hi
   have hs := NodeA.size_lt hm
   simp only [lt_t hx, if_true, idx_nat, hx, Option.bind_some, ih _ (show n.kids[i].size ≤ k by omega) (by omega) (by omega)]
   rw [w64s (by omega), List.take_add_one, hx]
   congr 2
   simp only [Option.toList_some, List.map_append, List.map_cons, List.map_nil, List.foldl_append, List.foldl_cons, List.foldl_nil]
   split <;> omega
  ·simp only [lt_f, Bool.false_eq_true, if_false, List.take_length]
  ·rw [lev_eq] at hll ⊢
   rw [w64 (by omega) (by omega)]
   congr 1
   omega
theorem r08_Levels_eq {K : Nat} {n : NodeA} (hK : n.size ≤ K) (hb : n.size ≤ big) : r08_Levels K n = some (n.lev : Int) := Levels_iter K n hK hK hb
def Within (n : NodeA) (L v : Int) (r : Bool × Int) : Prop := if (n.size : Int) ≤ L ∧ (n.lev : Int) ≤ v then r = (true, L - n.size) else r.1 = false
theorem foldl_max_le {l : List Nat} {v : Nat} : l.foldl max 0 ≤ v ↔ ∀ x ∈ l, x ≤ v := by
 induction l with
 | nil => simp
 | cons y l ih => rw [List.foldl_cons, foldl_max]; simp only [List.mem_cons, forall_eq_or_imp]; rw [← ih]; omega
theorem within_iter {K : Nat} : ∀ (k : Nat) (n : NodeA) (L v : Int), n.size ≤ k → n.size ≤ K → n.size ≤ big → 0 ≤ L → L ≤ 1000000 → -1000000 ≤ v → v ≤ 1000000 → v - n.size ≥ -1152921504606846976 → ∃ r, iter k (fun self q => tree_within_body K self q.1 q.2.1 q.2.2) (n, L, v) = some r ∧ Within n L v r := by
 intro k
 induction k with
 | zero => intro n L v h; have := n.size_pos; omega
 | succ k ih =>
  intro n L v h hK hb hL hL' hv hv' hvs
  rw [iter_succ]
  generalize iter k (fun self q => tree_within_body K self q.1 q.2.1 q.2.2) = S at ih ⊢
  have hl := n.kids_lt
  have hp := n.size_pos
  have hlv := lev_eq n
  have hsz : n.size = 1 + (n.kids.map NodeA.size).sum := by cases n with | mk o m r ks => rw [NodeA.size_mk]; rfl
  have hb' : n.size ≤ 1099511627776 := hb
  have e1 : IntKind.wrap .i64 (L - 1) = L - 1 := w64 (by omega) (by omega)
  have e2 : IntKind.wrap .i64 (v - 1) = v - 1 := w64 (by omega) (by omega)
  unfold tree_within_body
  simp only [e1, e2]
  by_cases hc : L - 1 < 0 ∨ v ≤ 0
  ·refine ⟨(false, L - 1), ?_, ?_⟩
   ·have : (if decide (L - 1 < 0) = true then some true else some (decide (v ≤ 0))) = some true := by
     rcases hc with h | h
     ·rw [decide_eq_true h]; rfl
     ·rw [decide_eq_true h]; split <;> rfl
    rw [this]; rfl
   ·unfold Within
    rw [if_neg]
    rintro ⟨h1, h2⟩
    rcases hc with h | h <;> omega
  ·have : (if decide (L - 1 < 0) = true then some true else some (decide (v ≤ 0))) = some false := by
    have h1 : decide (L - 1 < 0) = false := by simp; omega
    have h2 : decide (v ≤ 0) = false := by simp; omega
    rw [h1, h2]; rfl
   rw [this]
   simp only [Option.bind_some, Bool.false_eq_true, if_false, Out.fin_go]
   have hlev : (∀ x ∈ n.kids, (x.lev : Int) ≤ v - 1) ↔ (n.lev : Int) ≤ v := by
    rw [hlv]
    constructor
    ·intro hq
     have : (n.kids.map NodeA.lev).foldl max 0 ≤ (v - 1).toNat := foldl_max_le.2 fun x hx => by
      obtain ⟨y, hy, rfl⟩ := List.mem_map.1 hx
      have := hq y hy; omega
     omega
    ·intro hq x hx
     have := foldl_max_le.1 (Nat.le_refl ((n.kids.map NodeA.lev).foldl max 0)) _ (List.mem_map_of_mem hx)
     omega
   refine ex_ob (Exists.imp (fun o ho => ⟨ho.1, ?_⟩) (loopE (fun i (s : Int × Int) => s.1 = i ∧ 0 ≤ s.2 ∧ s.2 ≤ 1000000)
    (fun i s o => if ((((n.kids.drop i).map NodeA.size).sum : Nat) : Int) ≤ s.2 ∧ (∀ x ∈ n.kids.drop i, (x.lev : Int) ≤ v - 1) then o = .go (s.2 - ((((n.kids.drop i).map NodeA.size).sum : Nat) : Int)) else ∃ z, o = .out (false, z))
    n.kids.length (fun g i s hi hj hg => ?_) (fun g s hj => ?_) 0 (0, L - 1) ⟨rfl, by simp only; omega, by simp only; omega⟩ (Nat.zero_le _) (by omega)))
   ·have h2 := ho.2
    rw [List.drop_zero] at h2
    simp only at h2
    by_cases hc3 : ((((n.kids).map NodeA.size).sum : Nat) : Int) ≤ L - 1 ∧ ∀ x ∈ n.kids, (x.lev : Int) ≤ v - 1
    ·rw [if_pos hc3] at h2
     subst h2
     refine ⟨(true, L - n.size), ?_, ?_⟩
     ·simp only [Out.fin_go, hsz]; congr 2; omega
     ·unfold Within; rw [if_pos ⟨by omega, hlev.1 hc3.2⟩]
    ·rw [if_neg hc3] at h2
     obtain ⟨z, rfl⟩ := h2
     refine ⟨(false, z), rfl, ?_⟩
     unfold Within; rw [if_neg fun hq => hc3 ⟨by omega, hlev.2 hq.2⟩]
   ·obtain ⟨s1, M⟩ := s
    obtain ⟨rfl, hM, hM'⟩ := hj
    simp only at hM hM'
    have hx : n.kids[i]? = some n.kids[i] := List.getElem?_eq_getElem hi
    have hm := List.getElem_mem hi
    have hs := NodeA.size_lt hm
    have hbk : n.kids[i].size ≤ big := by unfold big; omega
    obtain ⟨r, hr, hw⟩ := ih n.kids[i] M (v - 1) (by omega) (by omega) hbk hM hM' (by omega) (by omega) (by omega)
    simp only [lt_t hx, if_true, idx_nat, hx, Option.bind_some, hr]
    have hdrop := List.drop_eq_getElem_cons hi
    have hsum : ((n.kids.drop i).map NodeA.size).sum = n.kids[i].size + ((n.kids.drop (i + 1)).map NodeA.size).sum := by rw [hdrop, List.map_cons, List.sum_cons]
    have hall : (∀ x ∈ n.kids.drop i, (x.lev : Int) ≤ v - 1) ↔ (n.kids[i].lev : Int) ≤ v - 1 ∧ ∀ x ∈ n.kids.drop (i + 1), (x.lev : Int) ≤ v - 1 := by rw [hdrop]; exact List.forall_mem_cons
    unfold Within at hw
    by_cases hok : (n.kids[i].size : Int) ≤ M ∧ (n.kids[i].lev : Int) ≤ v - 1
    ·rw [if_pos hok] at hw
     subst hw
     simp only [Bool.not_true, Bool.false_eq_true, if_false]
     rw [w64s (by omega)]
     obtain ⟨o, h1, h2⟩ := hg (((i + 1 : Nat) : Int), M - n.kids[i].size) ⟨rfl, by simp only; omega, by simp only; omega⟩
     simp only at h2
     refine ⟨o, h1, ?_⟩
     by_cases hc2 : ((((n.kids.drop (i + 1)).map NodeA.size).sum : Nat) : Int) ≤ M - n.kids[i].size ∧ ∀ x ∈ n.kids.drop (i + 1), (x.lev : Int) ≤ v - 1
     ·rw [if_pos hc2] at h2
      rw [if_pos ⟨by rw [hsum]; omega, hall.2 ⟨hok.2, hc2.2⟩⟩, h2, hsum]
      congr 1
      omega
     ·rw [if_neg hc2] at h2
      rw [if_neg fun hq => hc2 ⟨by rw [hsum] at hq; omega, (hall.1 hq.2).2⟩]
      exact h2
    ·rw [if_neg hok] at hw
     rw [hw]
     refine ⟨.out (false, r.2), rfl, ?_⟩
     rw [if_neg fun hq => hok ⟨by rw [hsum] at hq; omega, (hall.1 hq.2).1⟩]
     exact ⟨_, rfl⟩
   ·obtain ⟨s1, M⟩ := s
    obtain ⟨rfl, hM, hM'⟩ := hj
    simp only at hM hM'
    refine ⟨.go M, by simp only [lt_f, Bool.false_eq_true, if_false], ?_⟩
    rw [List.drop_length, if_pos ⟨by simpa using hM, fun x hx => by cases hx⟩]; simp
theorem tree_within_eq {K : Nat} {n : NodeA} (hK : n.size ≤ K) (hb : n.size ≤ big) : ∃ r, tree_within K n 4000 60 = some r ∧ Within n 4000 60 r :=
 within_iter K n 4000 60 hK hK hb (by omega) (by omega) (by omega) (by omega) (by unfold big at hb; omega)
/-! ### formed and well -/
abbrev emptyB (s : ByteArray) : Bool := s.toList == (⟨#[]⟩ : ByteArray).toList
theorem emptyB_name {s : ByteArray} (h : emptyB s = true) : nameB s = false := by
 have : s = ⟨#[]⟩ := bytes_eq.1 h
 subst this; rfl
def numC (n : NodeA) : Bool := if n.op == 1 then natS n.num else !(n.num.neg || (decide (0 < (n.num.num.length : Int)) || decide (0 < (n.num.den.length : Int))))
def nameC (n : NodeA) : Bool := if namedS n.op || (n.op == 10 || n.op == 37) then nameB n.name else emptyB n.name
def flowK (kids : List NodeA) (i : Nat) : Bool := (kids[i]?).all fun x => !(x.op != 55 && (x.op != 56 || (i : Int) != ((kids.length - 2 : Nat) : Int))) && (kids.take i).all fun y => !(x.op == 55 && y.name.toList == x.name.toList)
def stC (n : NodeA) (d fd fl : Bool) : Bool :=
 if n.op == 10 || n.op == 37 then decide (n.kids.length ≤ 1)
 else if n.op == 54 then decide (2 ≤ n.kids.length) && (List.range (n.kids.length - 1)).all (flowK n.kids)
 else if n.op == 3 then !(d || (fd || fl))
 else if n.op == 12 then !(d || fl)
 else if n.op == 39 then !(fl || (((n.kids.length : Int) != 1) || !((n.kids[0]?).all diffS)))
 else true
def sortsC (n : NodeA) : List Int :=
 if n.op == 10 || n.op == 37 then List.replicate n.kids.length 1
 else if n.op == 54 then List.replicate (n.kids.length - 1) 4 ++ [2]
 else (sortsS n.op).getD []
def lastC (n : NodeA) : Bool :=
 if n.op == 8 then (n.kids[1]?).all fun x => x.op == 1 && decide (0 < (x.num.num.length : Int))
 else if n.op == 9 then (n.kids[1]?).all fun x => x.op == 1 && (((x.num.num.length : Int) == 0) || ((x.num.num.length : Int) == 1) && (x.num.num[0]?).all fun w => decide (w ≤ 20))
 else true
def okS : NodeA → Bool → Bool → Bool → Bool
 | .mk op name num kids, d, fd, fl =>
  numC (.mk op name num kids) && (nameC (.mk op name num kids) && (stC (.mk op name num kids) d fd fl && ((kids.map fun x => sortS x.op) == sortsC (.mk op name num kids) && ((kids.attach.all fun ⟨k, _⟩ => okS k (d || op == 12) (fd || op == 39) (fl || op == 54)) && lastC (.mk op name num kids)))))
termination_by n => SizeOf.sizeOf n
decreasing_by exact NodeA.size_kid (by assumption)
theorem okS_eq (n : NodeA) (d fd fl : Bool) : okS n d fd fl = (numC n && (nameC n && (stC n d fd fl && ((n.kids.map fun x => sortS x.op) == sortsC n && (n.kids.all (fun k => okS k (d || n.op == 12) (fd || n.op == 39) (fl || n.op == 54)) && lastC n))))) := by
 cases n with
 | mk o m r ks =>
  rw [okS]
  have : (ks.attach.all fun x => match x with | ⟨k, _⟩ => okS k (d || o == 12) (fd || o == 39) (fl || o == 54)) = ks.all (fun k => okS k (d || o == 12) (fd || o == 39) (fl || o == 54)) := by
   rw [Bool.eq_iff_iff]; simp [List.all_eq_true]
  rw [this]; rfl
theorem num_join {K : Nat} {n : NodeA} : (if (n.op == (1 : Int)) then (tree_natural K n.num).bind fun r4 => if (!r4) then outM (some false) else some (.go ()) else
   ((if n.num.neg then some true else if (decide ((0 : Int) < (n.num.num.length : Int))) then some true else some (decide ((0 : Int) < (n.num.den.length : Int)))) : Option Bool).bind (fun v7_0 => if v7_0 then outM (some false) else some (.go ())) : Option (Out Unit Bool)) = some (if numC n then .go () else .out false) := by
 unfold numC
 simp only [tree_natural_eq, Option.bind_some, orO, outM_eq]
 cases (n.op == 1) <;> cases natS n.num <;> cases (n.num.neg || (decide (0 < (n.num.num.length : Int)) || decide (0 < (n.num.den.length : Int)))) <;> rfl
theorem num_join' {K : Nat} {n : NodeA} : (if (n.op == (1 : Int)) then (r08_natural K n.num).bind fun r4 => if (!r4) then outM (some false) else some (.go ()) else
   ((if n.num.neg then some true else if (decide ((0 : Int) < (n.num.num.length : Int))) then some true else some (decide ((0 : Int) < (n.num.den.length : Int)))) : Option Bool).bind (fun v7_0 => if v7_0 then outM (some false) else some (.go ())) : Option (Out Unit Bool)) = some (if numC n then .go () else .out false) := by
 unfold numC
 simp only [r08_natural_eq, Option.bind_some, orO, outM_eq]
 cases (n.op == 1) <;> cases natS n.num <;> cases (n.num.neg || (decide (0 < (n.num.num.length : Int)) || decide (0 < (n.num.den.length : Int)))) <;> rfl
theorem app_one {i : Nat} {x : Int} (h : i ≤ big) : appO 8 (List.replicate i x) [x] = some (List.replicate (i + 1) x) := by
 unfold appO big at *
 rw [if_pos (by simp; omega), List.replicate_succ']
theorem map_eq {n : NodeA} {l : List Int} (hl : n.kids.length = l.length) (q : NodeA → Bool) :
  ((List.range n.kids.length).all fun i => (n.kids[i]?).all fun x => (l[i]?).all fun s => !(sortS x.op != s) && q x) = (((n.kids.map fun x => sortS x.op) == l) && n.kids.all q) := by
 rw [Bool.eq_iff_iff]
 simp only [List.all_eq_true, List.mem_range, Bool.and_eq_true, beq_iff_eq]
 constructor
 ·intro h
  have get : ∀ i (hi : i < n.kids.length), sortS n.kids[i].op = l[i]'(by omega) ∧ q n.kids[i] = true := fun i hi => by
   have := h i hi
   rw [List.getElem?_eq_getElem hi, List.getElem?_eq_getElem (show i < l.length by omega)] at this
   simpa using this
  refine ⟨List.ext_getElem (by simpa using hl) fun i h1 h2 => ?_, fun x hx => ?_⟩
  ·rw [List.getElem_map]; exact (get i (by simpa using h1)).1
  ·obtain ⟨i, hi, rfl⟩ := List.mem_iff_getElem.1 hx
   exact (get i hi).2
 ·rintro ⟨rfl, h⟩ i hi
  have hx : n.kids[i]? = some n.kids[i] := List.getElem?_eq_getElem hi
  simp [hx, h _ (List.getElem_mem hi)]
theorem formed_iter {K : Nat} (hK : 12 < K) : ∀ (k : Nat) (n : NodeA) (at' : Tree_placeA), n.size ≤ k → n.size ≤ K → n.size ≤ big → sortS n.op ≠ 0 →
  iter k (fun self q => tree_formed_body K self q.1 q.2) (n, at') = some (okS n at'.inDiff at'.inFDiff at'.inFlow) := by
 intro k
 induction k with
 | zero => intro n a h; have := n.size_pos; omega
 | succ k ih =>
  intro n a h hK2 hb hsort
  rw [iter_succ, okS_eq]
  generalize iter k (fun self q => tree_formed_body K self q.1 q.2) = S at ih ⊢
  obtain ⟨d, fd, fl⟩ := a
  have hl := n.kids_lt
  have htab := tab hsort
  have hbig : n.size ≤ 1099511627776 := hb
  unfold tree_formed_body
  refine ob _ num_join ?_
  cases hA : numC n with
  | false => rfl
  | true =>
  simp only [if_true, Out.fin_go, tree_shape_eq, Option.bind_some, tree_Name_eq hK, Bool.true_and]
  refine ob (if (namedS n.op && nameB n.name || !namedS n.op && (emptyB n.name || (n.op == 10 || n.op == 37))) then .go () else .out false) ?_ ?_
  ·have e10 : (n.op != 10) = !(n.op == 10) := rfl
   have e37 : (n.op != 37) = !(n.op == 37) := rfl
   rw [e10, e37]
   generalize (n.op == 10) = b10
   generalize (n.op == 37) = b37
   have : (n.name.toList == (⟨#[]⟩ : ByteArray).toList) = emptyB n.name := rfl
   rw [this]
   cases namedS n.op <;> cases nameB n.name <;> cases emptyB n.name <;> cases b10 <;> cases b37 <;> rfl
  cases hB : (namedS n.op && nameB n.name || !namedS n.op && (emptyB n.name || (n.op == 10 || n.op == 37))) with
  | false =>
   have : nameC n = false := by
    unfold nameC
    revert hB
    cases namedS n.op <;> cases nameB n.name <;> cases emptyB n.name <;> cases (n.op == 10 || n.op == 37) <;> simp
   rw [this]; rfl
  | true =>
  simp only [if_true, Out.fin_go]
  -- the places
  refine ob (if (!(n.op == 10 || n.op == 37) || nameB n.name) && stC n d fd fl then .go (sortsC n, (⟨d || n.op == 12, fd || n.op == 39, fl || n.op == 54⟩ : Tree_placeA)) else .out false) ?_ ?_
  ·by_cases h10 : (n.op == 10 || n.op == 37) = true
   ·obtain ⟨hs0, hn0⟩ := htab.2.2.2.1 (by rw [h10]; rfl)
    have o12 : (n.op == 12) = false := by rw [Bool.eq_false_iff]; intro hc; simp at hc h10; omega
    have o39 : (n.op == 39) = false := by rw [Bool.eq_false_iff]; intro hc; simp at hc h10; omega
    have o54 : (n.op == 54) = false := by rw [Bool.eq_false_iff]; intro hc; simp at hc h10; omega
    have e : stC n d fd fl = decide (n.kids.length ≤ 1) := by unfold stC; rw [if_pos h10]
    have e2 : sortsC n = List.replicate n.kids.length 1 := by unfold sortsC; rw [if_pos h10]
    rw [e, e2, o12, o39, o54, h10, Bool.not_true, Bool.false_or, Bool.or_false, Bool.or_false, Bool.or_false]
    simp only [orO', h10, Option.bind_some, if_true]
    cases hnm : nameB n.name with
    | false => rfl
    | true =>
     by_cases h1 : n.kids.length ≤ 1
     ·have hd : decide ((1 : Int) < (n.kids.length : Int)) = false := by simp; omega
      simp only [Bool.not_true, Bool.false_eq_true, if_false, hd, Option.bind_some, Out.fin_go, hs0, Option.isNone_none, must, if_true, Bool.true_and, decide_eq_true h1]
      refine ob _ (foldG n.kids.length (fun i => ((i : Int), List.replicate i (1 : Int))) (List.replicate n.kids.length 1) (fun g i hi => ?_) (fun g => ?_) (by omega) rfl) rfl
      ·have hx : n.kids[i]? = some n.kids[i] := List.getElem?_eq_getElem hi
       simp only [lt_t hx, if_true, app_one (show i ≤ big by unfold big; omega), Option.bind_some]
       rw [w64s (by omega)]
      ·simp only [lt_f, Bool.false_eq_true, if_false]
     ·have hd : decide ((1 : Int) < (n.kids.length : Int)) = true := by simp; omega
      have hd2 : decide (n.kids.length ≤ 1) = false := by simp; omega
      simp only [Bool.not_true, Bool.false_eq_true, if_false, hd, Option.bind_some, hd2, Bool.and_false]
      rfl
   ·have h10' : (n.op == 10 || n.op == 37) = false := by simpa using h10
    rw [h10', Bool.not_false, Bool.true_or, Bool.true_and]
    simp only [orO', h10', Option.bind_some, Bool.false_eq_true, if_false]
    by_cases h54 : (n.op == 54) = true
    ·obtain ⟨hs0, hn0⟩ := htab.2.2.2.1 (by rw [h54]; simp)
     have o12 : (n.op == 12) = false := by rw [Bool.eq_false_iff]; intro hc; simp at hc h54; omega
     have o39 : (n.op == 39) = false := by rw [Bool.eq_false_iff]; intro hc; simp at hc h54; omega
     have e : stC n d fd fl = (decide (2 ≤ n.kids.length) && (List.range (n.kids.length - 1)).all (flowK n.kids)) := by unfold stC; rw [h10', h54]; rfl
     have e2 : sortsC n = List.replicate (n.kids.length - 1) 4 ++ [2] := by unfold sortsC; rw [h10', h54]; rfl
     have he : emptyB n.name = true := by
      revert hB; rw [hn0, h10']; simp
     have he' : (n.name.toList == (⟨#[]⟩ : ByteArray).toList) = true := he
     rw [e, e2, o12, o39, h54, Bool.or_true, Bool.or_false, Bool.or_false]
     simp only [if_true, he', Bool.not_true, Bool.false_eq_true, if_false]
     by_cases h2 : 2 ≤ n.kids.length
     ·have hd : decide ((n.kids.length : Int) < 2) = false := by simp; omega
      have e3 : IntKind.wrap .i64 ((n.kids.length : Int) - 1) = ((n.kids.length - 1 : Nat) : Int) := by rw [w64 (by omega) (by omega)]; omega
      have e4 : IntKind.wrap .i64 (((n.kids.length - 1 : Nat) : Int) - 1) = ((n.kids.length - 2 : Nat) : Int) := by rw [w64 (by omega) (by omega)]; omega
      simp only [hd, Bool.false_eq_true, if_false, Option.bind_some, Out.fin_go, hs0, Option.isNone_none, must, if_true, e3, e4, decide_eq_true h2, Bool.true_and]
      refine ob _ (scanG (n.kids.length - 1) (fun i => ((i : Int), List.replicate i (4 : Int))) (flowK n.kids) (Out.out false : Out (List Int × Tree_placeA) Bool) (List.replicate (n.kids.length - 1) 4) (fun g i hi => ?_) (fun g => ?_) (by omega) rfl) ?_
      ·have hi' : i < n.kids.length := by omega
       have hx : n.kids[i]? = some n.kids[i] := List.getElem?_eq_getElem hi'
       have hd : decide ((i : Int) < ((n.kids.length - 1 : Nat) : Int)) = true := by simp; omega
       have hcut : cutL n.kids none (some (i : Int)) = some (n.kids.take i) := by
        unfold cutL; simp only [Option.getD_some, Option.getD_none]
        rw [if_pos (by omega)]; simp
       simp only [hd, if_true, idx_nat, hx, Option.bind_some, hcut]
       have hC : flowK n.kids i = (!(n.kids[i].op != 55 && (n.kids[i].op != 56 || (i : Int) != ((n.kids.length - 2 : Nat) : Int))) && (n.kids.take i).all fun y => !(n.kids[i].op == 55 && y.name.toList == n.kids[i].name.toList)) := by unfold flowK; rw [hx]; rfl
       rw [hC, w64s (by omega)]
       simp only [orO, andO, Option.bind_some]
       refine ob (if (!(n.kids[i].op != 55 && (n.kids[i].op != 56 || (i : Int) != ((n.kids.length - 2 : Nat) : Int))) && (n.kids.take i).all fun y => !(n.kids[i].op == 55 && y.name.toList == n.kids[i].name.toList)) then .go (List.replicate (i + 1) 4) else .out (.out (.out false))) ?_ ?_
       ·cases hb : (n.kids[i].op != 55 && (n.kids[i].op != 56 || (i : Int) != ((n.kids.length - 2 : Nat) : Int))) with
        | true => rfl
        | false =>
         simp only [Option.bind_some, Bool.false_eq_true, if_false, Out.fin_go, Bool.not_false, Bool.true_and]
         have hti : (n.kids.take i).length = i := by rw [List.length_take]; omega
         refine ob _ (scanG (n.kids.take i).length (fun j => (j : Int)) (fun j => ((n.kids.take i)[j]?).all fun y => !(n.kids[i].op == 55 && y.name.toList == n.kids[i].name.toList)) (.out (.out (.out false))) () (fun g' j hj => ?_) (fun g' => ?_) (by omega) rfl) ?_
         ·have hy : (n.kids.take i)[j]? = some (n.kids.take i)[j] := List.getElem?_eq_getElem hj
          simp only [lt_t hy, if_true, idx_nat, hy, Option.bind_some, Option.all_some]
          rw [w64s (by omega)]
          cases (n.kids[i].op == 55 && (n.kids.take i)[j].name.toList == n.kids[i].name.toList) <;> rfl
         ·simp only [lt_f, Bool.false_eq_true, if_false]
         ·rw [range_all]
          cases ((n.kids.take i).all fun y => !(n.kids[i].op == 55 && y.name.toList == n.kids[i].name.toList)) with
          | false => rfl
          | true => simp only [if_true, Out.fin_go, app_one (show i ≤ big by unfold big; omega), Option.bind_some]
       ·cases (!(n.kids[i].op != 55 && (n.kids[i].op != 56 || (i : Int) != ((n.kids.length - 2 : Nat) : Int))) && (n.kids.take i).all fun y => !(n.kids[i].op == 55 && y.name.toList == n.kids[i].name.toList)) <;> rfl
      ·have hd : decide (((n.kids.length - 1 : Nat) : Int) < ((n.kids.length - 1 : Nat) : Int)) = false := by simp
       simp only [hd, Bool.false_eq_true, if_false]
      ·cases (List.range (n.kids.length - 1)).all (flowK n.kids) with
       | false => rfl
       | true =>
        simp only [if_true, Out.fin_go, appO]
        rw [if_pos (by simp; omega)]; rfl
     ·have hd : decide ((n.kids.length : Int) < 2) = true := by simp; omega
      have hd2 : decide (2 ≤ n.kids.length) = false := by simp; omega
      simp only [hd, hd2, if_true, Option.bind_some, Bool.false_and]
      rfl
    ·have h54' : (n.op == 54) = false := by simpa using h54
     have e2 : sortsC n = (sortsS n.op).getD [] := by unfold sortsC; rw [h10', h54']; rfl
     have e1 : stC n d fd fl = if n.op == 3 then !(d || (fd || fl)) else if n.op == 12 then !(d || fl) else if n.op == 39 then !(fl || (((n.kids.length : Int) != 1) || !((n.kids[0]?).all diffS))) else true := by
      unfold stC; rw [h10', h54']; rfl
     rw [e1, e2, h54', Bool.or_false]
     simp only [Bool.false_eq_true, if_false]
     by_cases h3 : (n.op == 3) = true
     ·have o12 : (n.op == 12) = false := by rw [Bool.eq_false_iff]; intro hc; simp at hc h3; omega
      have o39 : (n.op == 39) = false := by rw [Bool.eq_false_iff]; intro hc; simp at hc h3; omega
      simp only [h3, o12, o39, if_true, Bool.or_false]
      cases d <;> cases fd <;> cases fl <;> rfl
     have h3' : (n.op == 3) = false := by simpa using h3
     by_cases h12 : (n.op == 12) = true
     ·have o39 : (n.op == 39) = false := by rw [Bool.eq_false_iff]; intro hc; simp at hc h12; omega
      simp only [h3', h12, o39, if_true, Bool.or_false, Bool.or_true, Bool.false_eq_true, if_false]
      cases d <;> cases fd <;> cases fl <;> rfl
     have h12' : (n.op == 12) = false := by simpa using h12
     by_cases h39 : (n.op == 39) = true
     ·simp only [h3', h12', h39, if_true, Bool.or_false, Bool.or_true, Bool.false_eq_true, if_false]
      cases fl with
      | true => rfl
      | false =>
       by_cases hk : n.kids.length = 1
       ·have hx : n.kids[0]? = some n.kids[0] := List.getElem?_eq_getElem (by omega)
        have hm : n.kids[0] ∈ n.kids := List.getElem_mem (by omega)
        have hs := NodeA.size_lt hm
        have i0 : idx n.kids 0 = some n.kids[0] := by rw [← hx]; exact idx_nat (k := 0)
        have e : ((n.kids.length : Int) != 1) = false := by simp [hk]
        simp only [e, Bool.false_eq_true, if_false, i0, hx, Option.bind_some, Option.all_some, tree_differentiable_eq (show n.kids[0].size ≤ K by omega) (show n.kids[0].size ≤ 4611686018427387904 by omega)]
        cases diffS n.kids[0] <;> cases d <;> cases fd <;> rfl
       ·have e : ((n.kids.length : Int) != 1) = true := by simp; omega
        simp only [e, Bool.false_eq_true, if_false, if_true, Bool.false_or, Bool.true_or]
        rfl
     have h39' : (n.op == 39) = false := by simpa using h39
     simp only [h3', h12', h39', Bool.false_eq_true, if_false, if_true, Bool.or_false]
  cases hC : ((!(n.op == 10 || n.op == 37) || nameB n.name) && stC n d fd fl) with
  | false =>
   have : (nameC n && stC n d fd fl) = false := by
    unfold nameC
    revert hB hC
    cases namedS n.op <;> cases nameB n.name <;> cases emptyB n.name <;> cases (n.op == 10 || n.op == 37) <;> cases stC n d fd fl <;> simp
   rw [← Bool.and_assoc, this]; rfl
  | true =>
  have hN : nameC n = true := by
   unfold nameC
   revert hB hC
   cases namedS n.op <;> cases nameB n.name <;> cases emptyB n.name <;> cases (n.op == 10 || n.op == 37) <;> simp
  have hS : stC n d fd fl = true := by
   revert hC; cases stC n d fd fl <;> simp
  rw [hN, hS]
  simp only [if_true, Out.fin_go, Bool.true_and]
  have hne : ∀ s ∈ sortsC n, s ≠ 0 := by
   unfold sortsC
   split
   ·intro s hs; have := List.eq_of_mem_replicate hs; omega
   ·split
    ·intro s hs
     rcases List.mem_append.1 hs with hs | hs
     ·have := List.eq_of_mem_replicate hs; omega
     ·have := List.mem_singleton.1 hs; omega
    ·exact htab.2.2.2.2.2.2.2
  by_cases hlen : n.kids.length = (sortsC n).length
  ·have e : ((n.kids.length : Int) != ((sortsC n).length : Int)) = false := by rw [hlen]; simp
   simp only [e, Bool.false_eq_true, if_false]
   refine ob (if ((n.kids.map fun x => sortS x.op) == sortsC n && n.kids.all (fun k => okS k (d || n.op == 12) (fd || n.op == 39) (fl || n.op == 54))) then .go () else .out false) ?_ ?_
   ·rw [← map_eq hlen (fun k => okS k (d || n.op == 12) (fd || n.op == 39) (fl || n.op == 54))]
    refine scanG n.kids.length (fun i => (i : Int)) _ false () (fun g i hi => ?_) (fun g => ?_) (by omega) rfl
    ·have hx : n.kids[i]? = some n.kids[i] := List.getElem?_eq_getElem hi
     have hm := List.getElem_mem hi
     have hs := NodeA.size_lt hm
     have hbk : n.kids[i].size ≤ big := by unfold big; omega
     have hy : (sortsC n)[i]? = some ((sortsC n)[i]'(by omega)) := List.getElem?_eq_getElem (by omega)
     have hy0 := hne _ (List.getElem_mem (show i < (sortsC n).length by omega))
     simp only [lt_t hx, if_true, idx_nat, hx, hy, Option.bind_some, tree_Sort_eq, Option.all_some]
     generalize (sortsC n)[i]'(by omega) = s at hy0
     by_cases hq : sortS n.kids[i].op = s
     ·have e1 : (sortS n.kids[i].op != s) = false := by simp [hq]
      simp only [e1, Bool.false_eq_true, if_false, Bool.not_false, Bool.true_and, ih n.kids[i] ⟨d || n.op == 12, fd || n.op == 39, fl || n.op == 54⟩ (by omega) (by omega) hbk (by rw [hq]; exact hy0), Option.bind_some]
      rw [w64s (by omega)]
      cases okS n.kids[i] (d || n.op == 12) (fd || n.op == 39) (fl || n.op == 54) <;> rfl
     ·have e1 : (sortS n.kids[i].op != s) = true := by simp [hq]
      simp only [e1, if_true, Bool.not_true, Bool.false_and]
      rfl
    ·simp only [lt_f, Bool.false_eq_true, if_false]
   ·rw [← Bool.and_assoc ((n.kids.map fun x => sortS x.op) == sortsC n)]
    cases hD : ((n.kids.map fun x => sortS x.op) == sortsC n && n.kids.all (fun k => okS k (d || n.op == 12) (fd || n.op == 39) (fl || n.op == 54))) with
    | false => rfl
    | true =>
     simp only [if_true, Out.fin_go, Bool.true_and]
     unfold lastC
     by_cases h89 : (n.op == 8 || n.op == 9) = true
     ·have a10 : (n.op == 10 || n.op == 37) = false := by rw [Bool.eq_false_iff]; intro hc; simp at hc h89; omega
      have a54 : (n.op == 54) = false := by rw [Bool.eq_false_iff]; intro hc; simp at hc h89; omega
      have h2 : n.kids.length = 2 := by
       rw [hlen]; unfold sortsC
       rw [a10, a54, htab.2.2.2.2.2.1 h89]; rfl
      have hx : n.kids[1]? = some n.kids[1] := List.getElem?_eq_getElem (by omega)
      have i1 : idx n.kids 1 = some n.kids[1] := by rw [← hx]; exact idx_nat (k := 1)
      simp only [i1, hx, Option.bind_some, Option.all_some]
      cases (n.op == 8) with
      | true => cases (n.kids[1].op == 1) <;> rfl
      | false =>
       cases (n.op == 9) with
       | false => rfl
       | true =>
        simp only [Bool.false_eq_true, if_false, if_true]
        cases (n.kids[1].op == 1) with
        | false => rfl
        | true =>
         simp only [if_true, Bool.true_and]
         by_cases h0 : n.kids[1].num.num.length = 0
         ·rw [int_eq0 h0]; rfl
         ·have hw : n.kids[1].num.num[0]? = some n.kids[1].num.num[0] := List.getElem?_eq_getElem (by omega)
          have i0 : idx n.kids[1].num.num 0 = some n.kids[1].num.num[0] := by rw [← hw]; exact idx_nat (k := 0)
          simp only [int_ne0 h0, Bool.false_eq_true, if_false, Bool.false_or, i0, hw, Option.bind_some, Option.all_some, andO]
     ·have h8 : (n.op == 8) = false := by revert h89; cases (n.op == 8) <;> simp
      have h9 : (n.op == 9) = false := by revert h89; cases (n.op == 9) <;> simp
      rw [h8, h9]; rfl
  ·have e : ((n.kids.length : Int) != ((sortsC n).length : Int)) = true := by simp; omega
   have e2 : ((n.kids.map fun x => sortS x.op) == sortsC n) = false := by
    rw [beq_eq_false_iff_ne]; intro hq; apply hlen; rw [← hq]; simp
   rw [e, e2]; rfl
theorem okS_fl : ∀ n d fd, okS n d fd true = (okS n d fd false && !primS n) := by
 refine NodeA.ind fun n ih d fd => ?_
 rw [okS_eq n d fd true, okS_eq n d fd false, primS_eq]
 have hk : n.kids.all (fun k => okS k (d || n.op == 12) (fd || n.op == 39) true) = (n.kids.all (fun k => okS k (d || n.op == 12) (fd || n.op == 39) false) && !n.kids.any primS) := by
  rw [Bool.eq_iff_iff, Bool.and_eq_true, List.all_eq_true, List.all_eq_true, Bool.not_eq_true', List.any_eq_false]
  constructor
  ·intro h
   refine ⟨fun x hx => ?_, fun x hx => ?_⟩ <;> (have := h x hx; rw [ih x hx] at this; revert this; cases okS x (d || n.op == 12) (fd || n.op == 39) false <;> cases primS x <;> simp)
  ·rintro ⟨h1, h2⟩ x hx
   rw [ih x hx, h1 x hx]
   have := h2 x hx
   revert this; cases primS x <;> simp
 have hst : stC n d fd true = (stC n d fd false && !(n.op == 3 || (n.op == 12 || n.op == 39))) := by
  unfold stC
  by_cases h1 : (n.op == 10 || n.op == 37) = true
  ·have a3 : (n.op == 3) = false := by rw [Bool.eq_false_iff]; intro hc; simp at hc h1; omega
   have a12 : (n.op == 12) = false := by rw [Bool.eq_false_iff]; intro hc; simp at hc h1; omega
   have a39 : (n.op == 39) = false := by rw [Bool.eq_false_iff]; intro hc; simp at hc h1; omega
   simp [h1, a3, a12, a39]
  ·have h1' : (n.op == 10 || n.op == 37) = false := by simpa using h1
   by_cases h2 : (n.op == 54) = true
   ·have a3 : (n.op == 3) = false := by rw [Bool.eq_false_iff]; intro hc; simp at hc h2; omega
    have a12 : (n.op == 12) = false := by rw [Bool.eq_false_iff]; intro hc; simp at hc h2; omega
    have a39 : (n.op == 39) = false := by rw [Bool.eq_false_iff]; intro hc; simp at hc h2; omega
    rw [h1', h2, a3, a12, a39]; simp
   ·have h2' : (n.op == 54) = false := by simpa using h2
    rw [h1', h2']
    cases (n.op == 3) <;> cases (n.op == 12) <;> cases (n.op == 39) <;> simp
 have hfl : (fun k => okS k (d || n.op == 12) (fd || n.op == 39) (true || n.op == 54)) = fun k => okS k (d || n.op == 12) (fd || n.op == 39) true := by funext k; rw [Bool.true_or]
 rw [hfl, hst]
 by_cases h54 : (n.op == 54) = true
 ·have a3 : (n.op == 3) = false := by rw [Bool.eq_false_iff]; intro hc; simp at hc h54; omega
  have a12 : (n.op == 12) = false := by rw [Bool.eq_false_iff]; intro hc; simp at hc h54; omega
  have a39 : (n.op == 39) = false := by rw [Bool.eq_false_iff]; intro hc; simp at hc h54; omega
  simp only [a12, a39, Bool.or_false] at hk
  simp only [h54, a3, a12, a39, Bool.or_true, Bool.or_false, Bool.not_false, Bool.and_true, Bool.false_or, hk]
  cases numC n <;> cases nameC n <;> cases stC n d fd false <;> cases ((n.kids.map fun x => sortS x.op) == sortsC n) <;> cases (n.kids.all fun k => okS k d fd false) <;> cases n.kids.any primS <;> cases lastC n <;> rfl
 ·have h54' : (n.op == 54) = false := by simpa using h54
  rw [h54', hk]
  simp only [Bool.or_false]
  cases numC n <;> cases nameC n <;> cases stC n d fd false <;> cases ((n.kids.map fun x => sortS x.op) == sortsC n) <;> cases (n.kids.all fun k => okS k (d || n.op == 12) (fd || n.op == 39) false) <;> cases n.kids.any primS <;> cases lastC n <;> cases (n.op == 3 || (n.op == 12 || n.op == 39)) <;> rfl
theorem Natural_eq {K : Nat} {r : RatA} (hw : r.words) : ∃ z, r08_Natural K r 20 = some z ∧ decide (0 ≤ z) = (((r.num.length : Int) == 0) || ((r.num.length : Int) == 1) && (r.num[0]?).all fun w => decide (w ≤ 20)) := by
 unfold r08_Natural
 by_cases h0 : r.num.length = 0
 ·have e : ((r.num.length : Int) == 0) = true := by simp [h0]
  exact ⟨0, by rw [e]; rfl, by rw [e]; rfl⟩
 have e : ((r.num.length : Int) == 0) = false := int_ne0 h0
 have hx : r.num[0]? = some r.num[0] := List.getElem?_eq_getElem (by omega)
 have i0 : idx r.num 0 = some r.num[0] := by rw [← hx]; exact idx_nat (k := 0)
 have hb := hw.1 r.num[0] (List.getElem_mem (by omega))
 have ew : IntKind.wrap .i64 r.num[0] = r.num[0] := w64 (by omega) (by omega)
 simp only [e, Bool.false_eq_true, if_false, i0, hx, Option.bind_some, ew, Option.all_some, Bool.false_or]
 by_cases h1 : r.num.length = 1
 ·have e1 : decide ((1 : Int) < (r.num.length : Int)) = false := by simp; omega
  have e2 : ((r.num.length : Int) == 1) = true := by simp [h1]
  simp only [e1, e2, Bool.false_eq_true, if_false, Option.bind_some, Bool.true_and]
  by_cases h2 : r.num[0] ≤ 20
  ·have e3 : decide ((20 : Int) < r.num[0]) = false := by simp; omega
   refine ⟨r.num[0], by rw [e3]; rfl, ?_⟩
   rw [decide_eq_true h2, decide_eq_true hb.1]
  ·have e3 : decide ((20 : Int) < r.num[0]) = true := by simp; omega
   refine ⟨-1, by rw [e3]; rfl, ?_⟩
   rw [decide_eq_false h2]; rfl
 ·have e1 : decide ((1 : Int) < (r.num.length : Int)) = true := by simp; omega
  have e2 : ((r.num.length : Int) == 1) = false := by simp; omega
  refine ⟨-1, by rw [e1]; rfl, ?_⟩
  rw [e2]; rfl
theorem flow_eq {n : NodeA} (h54 : n.op = 54) (t f : Bool) :
  (decide (2 ≤ n.kids.length) && (!n.kids.any primS && ((n.kids[n.kids.length - 1]?).all (fun x => sortS x.op == 2 && okS x t f false) && (List.range (n.kids.length - 1)).all fun i => (n.kids[i]?).all fun x =>
   !(x.op == 56 && decide ((i : Int) < ((n.kids.length - 2 : Nat) : Int)) || (x.op != 56 && x.op != 55 || !(sortS x.op == 4 && okS x t f false))) && (n.kids.take i).all fun y => !(x.op == 55 && y.name.toList == x.name.toList)))) =
  (stC n t f false && ((n.kids.map fun x => sortS x.op) == sortsC n && n.kids.all fun k => okS k t f true)) := by
 have e1 : (n.op == 10 || n.op == 37) = false := by rw [h54]; rfl
 have e2 : (n.op == 54) = true := by rw [h54]; rfl
 unfold stC sortsC
 rw [e1, e2]
 simp only [Bool.false_eq_true, if_false, if_true]
 by_cases h2 : 2 ≤ n.kids.length
 ·rw [decide_eq_true h2, Bool.true_and, Bool.true_and, Bool.eq_iff_iff]
  have hl : n.kids.length - 1 < n.kids.length := by omega
  rw [List.getElem?_eq_getElem hl, Option.all_some]
  simp only [Bool.and_eq_true, List.all_eq_true, Bool.not_eq_true', List.any_eq_false, List.mem_range, okS_fl]
  have hget : ∀ i (hi : i < n.kids.length), n.kids[i]? = some n.kids[i] := fun i hi => List.getElem?_eq_getElem hi
  have hmap : ((n.kids.map fun x => sortS x.op) == List.replicate (n.kids.length - 1) 4 ++ [2]) = true ↔ (sortS n.kids[n.kids.length - 1].op = 2 ∧ ∀ i (hi : i < n.kids.length - 1), sortS (n.kids[i]'(by omega)).op = 4) := by
   rw [beq_iff_eq]
   constructor
   ·intro h
    have hg : ∀ i (hi : i < n.kids.length), sortS n.kids[i].op = (List.replicate (n.kids.length - 1) (4 : Int) ++ [2])[i]'(by simp; omega) := fun i hi => by
     have : (n.kids.map fun x => sortS x.op)[i]'(by simpa using hi) = sortS n.kids[i].op := by simp
     rw [← this]
     congr 1
    refine ⟨?_, fun i hi => ?_⟩
    ·rw [hg _ hl, List.getElem_append_right (by simp)]; simp
    ·rw [hg i (by omega), List.getElem_append_left (by simpa using hi)]; simp
   ·rintro ⟨h3, h4⟩
    refine List.ext_getElem (by simp; omega) fun i hi1 hi2 => ?_
    rw [List.getElem_map]
    by_cases hi : i < n.kids.length - 1
    ·rw [List.getElem_append_left (by simpa using hi), List.getElem_replicate]; exact h4 i hi
    ·have : i = n.kids.length - 1 := by simp at hi1; omega
     subst this
     rw [List.getElem_append_right (by simp)]; simpa using h3
  rw [hmap]
  constructor
  ·rintro ⟨hp, ⟨hs, ho⟩, hall⟩
   have at' : ∀ i (hi : i < n.kids.length - 1), (!(n.kids[i].op == 56 && decide ((i : Int) < ((n.kids.length - 2 : Nat) : Int)) || (n.kids[i].op != 56 && n.kids[i].op != 55 || !(sortS n.kids[i].op == 4 && okS n.kids[i] t f false)))) = true ∧ ∀ y ∈ n.kids.take i, (n.kids[i].op == 55 && y.name.toList == n.kids[i].name.toList) = false := fun i hi => by
    have := hall i hi
    rw [hget i (by omega), Option.all_some] at this
    simpa only [Bool.and_eq_true, List.all_eq_true, Bool.not_eq_true'] using this
   refine ⟨fun i hi => ?_, ⟨by simpa using hs, fun i hi => ?_⟩, fun x hx => ?_⟩
   ·obtain ⟨h3, h4⟩ := at' i hi
    unfold flowK
    rw [hget i (by omega), Option.all_some, Bool.and_eq_true]
    refine ⟨?_, ?_⟩
    ·simp at h3 ⊢; omega
    ·simp only [List.all_eq_true, Bool.not_eq_true']; exact h4
   ·obtain ⟨h3, _⟩ := at' i hi
    simp at h3; exact h3.2.2.1
   ·obtain ⟨i, hi, rfl⟩ := List.mem_iff_getElem.1 hx
    refine ⟨?_, by simpa using hp _ hx⟩
    by_cases hi' : i < n.kids.length - 1
    ·obtain ⟨h3, _⟩ := at' i hi'
     simp at h3; exact h3.2.2.2
    ·have : i = n.kids.length - 1 := by omega
     subst this; exact ho
  ·rintro ⟨hf, ⟨hs, h4⟩, hk⟩
   refine ⟨fun x hx => by have := (hk x hx).2; simp [this], ⟨by simpa using hs, (hk _ (List.getElem_mem hl)).1⟩, fun i hi => ?_⟩
   have := hf i hi
   unfold flowK at this
   rw [hget i (by omega), Option.all_some] at this ⊢
   simp only [Bool.and_eq_true, List.all_eq_true, Bool.not_eq_true'] at this ⊢
   refine ⟨?_, this.2⟩
   have h5 := (hk _ (List.getElem_mem (show i < n.kids.length by omega))).1
   have h6 := h4 i hi
   have h7 := this.1
   simp at h7 ⊢
   refine ⟨by omega, by omega, h6, h5⟩
 ·rw [decide_eq_false h2]; rfl
def kidV (n : NodeA) : ByteArray := if (n.op == 10 || n.op == 37) then (if ((n.kids.length : Int) == 1) then ⟨#[49]⟩ else kidB n.op) else kidB n.op
def digs (v : ByteArray) : List Int := v.toList.map fun c => (c.toNat : Int) - 48
def lastW (n : NodeA) : Bool := if n.op == 39 then (n.kids[0]?).all diffS else lastC n
theorem size_toList (v : ByteArray) : v.toList.length = v.size := by rw [bytes_toList]; exact Array.length_toList
theorem strAt_list {v : ByteArray} {i : Nat} (h : i < v.size) : ∃ c : UInt8, strAt v (i : Int) = some c ∧ v.toList[i]? = some c := by
 refine ⟨v[i], (strAt_get h).1, ?_⟩
 rw [bytes_toList, Array.getElem?_toList]
 exact Array.getElem?_eq_getElem h
theorem kidV_ok {n : NodeA} (hs : sortS n.op ≠ 0) : (∀ c ∈ (kidV n).toList, 48 ≤ c.toNat ∧ c.toNat ≤ 57) ∧ (∀ z ∈ digs (kidV n), z ≠ 0) := by
 have htab := tab hs
 have h1 : ∀ c ∈ (⟨#[49]⟩ : ByteArray).toList, c = 49 := by
  intro c hc; rw [bytes_toList] at hc; exact List.mem_singleton.1 hc
 have hk : ∀ z ∈ digs (kidB n.op), z ≠ 0 := by unfold digs; rw [htab.2.1]; exact htab.2.2.2.2.2.2.2
 unfold kidV
 split
 ·split
  ·refine ⟨fun c hc => by rw [h1 c hc]; decide, fun z hz => ?_⟩
   unfold digs at hz
   obtain ⟨c, hc, rfl⟩ := List.mem_map.1 hz
   rw [h1 c hc]; decide
  ·exact ⟨htab.2.2.1, hk⟩
 ·exact ⟨htab.2.2.1, hk⟩
theorem well_side {n : NodeA} {t f : Bool} (hs : sortS n.op ≠ 0) (h54 : (n.op == 54) = false) (hC : (t && n.op == 12 || (t || f) && n.op == 3) = false) (A : Bool) :
  (stC n t f false && ((n.kids.map fun x => sortS x.op) == sortsC n && (A && lastC n))) = ((n.kids.map fun x => sortS x.op) == digs (kidV n) && (A && lastW n)) := by
 have htab := tab hs
 by_cases h10 : (n.op == 10 || n.op == 37) = true
 ·obtain ⟨hs0, hn0⟩ := htab.2.2.2.1 (by rw [h10]; rfl)
  have a39 : (n.op == 39) = false := by rw [Bool.eq_false_iff]; intro hc; simp at hc h10; omega
  have hk : digs (kidB n.op) = [] := by unfold digs; rw [htab.2.1, hs0]; rfl
  have e1 : stC n t f false = decide (n.kids.length ≤ 1) := by unfold stC; rw [if_pos h10]
  have e2 : sortsC n = List.replicate n.kids.length 1 := by unfold sortsC; rw [if_pos h10]
  have e3 : lastW n = lastC n := by unfold lastW; rw [a39]; rfl
  rw [e1, e2, e3]
  unfold kidV
  rw [if_pos h10]
  by_cases h1 : n.kids.length = 1
  ·have : ((n.kids.length : Int) == 1) = true := by simp [h1]
   rw [this, if_pos rfl, h1]
   have : digs ⟨#[49]⟩ = [1] := by unfold digs; rw [bytes_toList]; rfl
   rw [this]; rfl
  ·have : ((n.kids.length : Int) == 1) = false := by rw [beq_eq_false_iff_ne]; omega
   rw [this]
   simp only [Bool.false_eq_true, if_false, hk]
   by_cases h0 : n.kids.length = 0
   ·rw [h0]; rfl
   ·have e : decide (n.kids.length ≤ 1) = false := by simp; omega
    have : ((n.kids.map fun x => sortS x.op) == ([] : List Int)) = false := by
     rw [beq_eq_false_iff_ne]; intro hq; apply h0; simpa using congrArg List.length hq
    rw [e, this]; rfl
 ·have h10' : (n.op == 10 || n.op == 37) = false := by simpa using h10
  have e2 : sortsC n = digs (kidV n) := by
   unfold sortsC kidV digs; rw [h10', h54]; exact htab.2.1.symm
  rw [e2]
  have e1 : stC n t f false = if n.op == 39 then !(((n.kids.length : Int) != 1) || !((n.kids[0]?).all diffS)) else true := by
   unfold stC
   rw [h10', h54]
   by_cases h3 : (n.op == 3) = true
   ·have a39 : (n.op == 39) = false := by rw [Bool.eq_false_iff]; intro hc; simp at hc h3; omega
    have a12 : (n.op == 12) = false := by rw [Bool.eq_false_iff]; intro hc; simp at hc h3; omega
    rw [h3, a12] at hC
    rw [h3, a39]
    revert hC; cases t <;> cases f <;> simp
   ·have h3' : (n.op == 3) = false := by simpa using h3
    by_cases h12 : (n.op == 12) = true
    ·have a39 : (n.op == 39) = false := by rw [Bool.eq_false_iff]; intro hc; simp at hc h12; omega
     rw [h3', h12] at hC
     rw [h3', h12, a39]
     revert hC; cases t <;> simp
    ·have h12' : (n.op == 12) = false := by simpa using h12
     rw [h3', h12']; simp
  rw [e1]
  by_cases h39 : (n.op == 39) = true
  ·have hlast : lastC n = true := by
    unfold lastC
    have a8 : (n.op == 8) = false := by rw [Bool.eq_false_iff]; intro hc; simp at hc h39; omega
    have a9 : (n.op == 9) = false := by rw [Bool.eq_false_iff]; intro hc; simp at hc h39; omega
    rw [a8, a9]; rfl
   have hd : digs (kidV n) = [2] := by rw [← e2]; unfold sortsC; rw [h10', h54, htab.2.2.2.2.1 (by simpa using h39)]; rfl
   have e3 : lastW n = (n.kids[0]?).all diffS := by unfold lastW; rw [h39]; rfl
   rw [h39, hlast, e3, hd]
   simp only [if_true, Bool.and_true]
   cases hm : ((n.kids.map fun x => sortS x.op) == ([2] : List Int)) with
   | false => simp
   | true =>
    have hl : n.kids.length = 1 := by have := congrArg List.length (eq_of_beq hm); simpa using this
    have : ((n.kids.length : Int) != 1) = false := by simp [hl]
    rw [this]
    cases (n.kids[0]?).all diffS <;> cases A <;> rfl
  ·have h39' : (n.op == 39) = false := by simpa using h39
   have e3 : lastW n = lastC n := by unfold lastW; rw [h39']; rfl
   rw [h39', e3]; rfl
theorem well_iter {K : Nat} (hK : 12 < K) : ∀ (k : Nat),
  (∀ (n : NodeA) (s : Int) (t f : Bool), 2 * n.size ≤ k → 2 * n.size ≤ K → n.size ≤ big → n.words → s ≠ 0 → (grp_r08_well K k).1 (n, s, t, f) = some (sortS n.op == s && okS n t f false)) ∧
  (∀ (n : NodeA) (t f : Bool), 2 * n.size ≤ k + 1 → 2 * n.size ≤ K → n.size ≤ big → n.words → n.op = 54 → (grp_r08_well K k).2 (n, t, f) = some (stC n t f false && ((n.kids.map fun x => sortS x.op) == sortsC n && n.kids.all fun k => okS k t f true))) := by
 intro k
 induction k with
 | zero => exact ⟨fun n s t f h => by have := n.size_pos; omega, fun n t f h => by have := n.size_pos; omega⟩
 | succ k ih =>
  obtain ⟨ih1, ih2⟩ := ih
  refine ⟨fun n s t f h hK2 hb hw hs => ?_, fun n t f h hK2 hb hw h54 => ?_⟩
  ·show r08_well_body K (grp_r08_well K k).1 (grp_r08_well K k).2 n s t f = _
   generalize (grp_r08_well K k).1 = S1 at ih1 ⊢
   generalize (grp_r08_well K k).2 = S2 at ih2 ⊢
   have hl := n.kids_lt
   have hbig : n.size ≤ 1099511627776 := hb
   unfold r08_well_body
   simp only [r08_Sort_eq, r08_named_eq, r08_Name_eq hK, Option.bind_some]
   by_cases hsort : sortS n.op = s
   ·subst hsort
    have htab := tab hs
    have e0 : (sortS n.op != sortS n.op) = false := by simp
    have e0' : (sortS n.op == sortS n.op) = true := by simp
    rw [e0, e0', Bool.true_and, okS_eq]
    simp only [Bool.false_eq_true, if_false]
    refine ob (if nameC n then .go () else .out false) ?_ ?_
    ·unfold nameC
     rw [htab.1]
     have hem : ((n.name.toList == (⟨#[]⟩ : ByteArray).toList) = true → nameB n.name = false) := emptyB_name
     have hem' : (n.name.toList == (⟨#[]⟩ : ByteArray).toList) = emptyB n.name := rfl
     rw [hem'] at hem ⊢
     revert hem
     cases (namedS n.op || (n.op == 10 || n.op == 37)) <;> cases nameB n.name <;> cases emptyB n.name <;> simp [outM]
    cases hB : nameC n with
    | false => simp [Out.fin]
    | true =>
    simp only [if_true, Out.fin_go]
    refine ob _ num_join' ?_
    cases hA : numC n with
    | false => rfl
    | true =>
    simp only [if_true, Out.fin_go, Bool.true_and]
    refine ob (if !(t && n.op == 12 || (t || f) && n.op == 3) then .go () else .out false) ?_ ?_
    ·cases t <;> cases f <;> cases (n.op == 12) <;> cases (n.op == 3) <;> rfl
    by_cases hC : (t && n.op == 12 || (t || f) && n.op == 3) = true
    ·have : stC n t f false = false := by
      unfold stC
      have h12 : (n.op == 12) = true ∨ (n.op == 3) = true := by
       revert hC; cases t <;> cases f <;> cases (n.op == 12) <;> cases (n.op == 3) <;> simp
      have a10 : (n.op == 10 || n.op == 37) = false := by rw [Bool.eq_false_iff]; intro hc; simp at hc h12; omega
      have a54 : (n.op == 54) = false := by rw [Bool.eq_false_iff]; intro hc; simp at hc h12; omega
      rw [a10, a54]
      rcases h12 with h12 | h12
      ·have a3 : (n.op == 3) = false := by rw [Bool.eq_false_iff]; intro hc; simp at hc h12; omega
       rw [h12, a3] at hC ⊢
       revert hC; cases t <;> cases f <;> simp
      ·have a12 : (n.op == 12) = false := by rw [Bool.eq_false_iff]; intro hc; simp at hc h12; omega
       rw [h12, a12] at hC ⊢
       revert hC; cases t <;> cases f <;> simp
     rw [hC, this]; rfl
    have hC' : (t && n.op == 12 || (t || f) && n.op == 3) = false := by simpa using hC
    rw [hC']
    simp only [Bool.not_false, if_true, Out.fin_go]
    by_cases h54 : (n.op == 54) = true
    ·have a12 : (n.op == 12) = false := by rw [Bool.eq_false_iff]; intro hc; simp at hc h54; omega
     have a39 : (n.op == 39) = false := by rw [Bool.eq_false_iff]; intro hc; simp at hc h54; omega
     have hlast : lastC n = true := by
      unfold lastC
      have a8 : (n.op == 8) = false := by rw [Bool.eq_false_iff]; intro hc; simp at hc h54; omega
      have a9 : (n.op == 9) = false := by rw [Bool.eq_false_iff]; intro hc; simp at hc h54; omega
      rw [a8, a9]; rfl
     rw [h54, a12, a39, hlast]
     simp only [if_true, Bool.or_false, Bool.or_true, Bool.and_true]
     rw [ih2 n t f (by omega) hK2 hb hw (by simpa using h54)]; rfl
    have h54' : (n.op == 54) = false := by simpa using h54
    simp only [h54', Bool.false_eq_true, if_false, r08_kids_eq, Option.bind_some, orO, Bool.or_false]
    rw [well_side hs h54' hC']
    obtain ⟨hv1, hv2⟩ := kidV_ok hs
    refine ob (kidV n) (by unfold kidV; cases (n.op == 10 || n.op == 37) <;> cases ((n.kids.length : Int) == 1) <;> rfl) ?_
    have hdl : (digs (kidV n)).length = (kidV n).size := by unfold digs; rw [List.length_map, size_toList]
    by_cases hlen : n.kids.length = (digs (kidV n)).length
    ·have e : (((kidV n).size : Int) != (n.kids.length : Int)) = false := by rw [hlen, hdl]; simp
     simp only [e, Bool.false_eq_true, if_false]
     refine ob (if ((n.kids.map fun x => sortS x.op) == digs (kidV n) && n.kids.all (fun k => okS k (t || n.op == 12) (f || n.op == 39) false)) then .go () else .out false) ?_ ?_
     ·rw [← map_eq hlen (fun k => okS k (t || n.op == 12) (f || n.op == 39) false)]
      refine scanG n.kids.length (fun i => (i : Int)) _ false () (fun g i hi => ?_) (fun g => ?_) (by omega) rfl
      ·have hx : n.kids[i]? = some n.kids[i] := List.getElem?_eq_getElem hi
       have hm := List.getElem_mem hi
       have hs' := NodeA.size_lt hm
       have hbk : n.kids[i].size ≤ big := by unfold big; omega
       obtain ⟨c, hc1, hc2⟩ := strAt_list (v := kidV n) (i := i) (by omega)
       have hcm := hv1 c (List.mem_of_getElem? hc2)
       have hy : (digs (kidV n))[i]? = some ((c.toNat : Int) - 48) := by unfold digs; rw [List.getElem?_map, hc2]; rfl
       have hy0 := hv2 _ (List.mem_of_getElem? hy)
       have hd : decide ((i : Int) < ((kidV n).size : Int)) = true := by simp; omega
       have e1 : IntKind.wrap .i64 (IntKind.wrap .u8 ((c.toNat : Int) - 48)) = (c.toNat : Int) - 48 := by
        have : IntKind.wrap .u8 ((c.toNat : Int) - 48) = (c.toNat : Int) - 48 := by
         simp only [IntKind.wrap, IntKind.bits, IntKind.signed, Bool.false_and]
         simp; omega
        rw [this, w64 (by omega) (by omega)]
       simp only [hd, if_true, idx_nat, hx, hc1, hy, Option.bind_some, e1, Option.all_some]
       generalize (c.toNat : Int) - 48 = z at hy0
       have ih' : ∀ a b, S1 (n.kids[i], z, a, b) = some (sortS n.kids[i].op == z && okS n.kids[i] a b false) := fun a b => ih1 n.kids[i] z a b (by omega) (by omega) hbk (NodeA.words_kid hw hm) hy0
       simp only [ih', Option.bind_some]
       rw [w64s (by omega)]
       have e2 : (sortS n.kids[i].op != z) = !(sortS n.kids[i].op == z) := rfl
       rw [e2]
       cases t <;> cases f <;> simp only [Bool.false_eq_true, if_false, if_true, Bool.false_or, Bool.true_or, Bool.not_not] <;> cases (sortS n.kids[i].op == z) <;> (try rfl) <;> generalize okS n.kids[i] _ _ false = q <;> cases q <;> rfl
      ·have hd : decide ((n.kids.length : Int) < ((kidV n).size : Int)) = false := by simp; omega
       simp only [hd, Bool.false_eq_true, if_false]
     ·rw [← Bool.and_assoc ((n.kids.map fun x => sortS x.op) == digs (kidV n))]
      cases hD : ((n.kids.map fun x => sortS x.op) == digs (kidV n) && n.kids.all (fun k => okS k (t || n.op == 12) (f || n.op == 39) false)) with
      | false => rfl
      | true =>
       simp only [if_true, Out.fin_go, Bool.true_and]
       have hmap : (n.kids.map fun x => sortS x.op) = digs (kidV n) := by
        revert hD; cases hq : ((n.kids.map fun x => sortS x.op) == digs (kidV n)) with
        | false => simp
        | true => intro _; exact eq_of_beq hq
       unfold lastW
       by_cases h89 : (n.op == 8 || n.op == 9) = true
       ·have a10 : (n.op == 10 || n.op == 37) = false := by rw [Bool.eq_false_iff]; intro hc; simp at hc h89; omega
        have a39 : (n.op == 39) = false := by rw [Bool.eq_false_iff]; intro hc; simp at hc h89; omega
        have h2 : n.kids.length = 2 := by
         rw [hlen]; unfold kidV digs
         rw [a10]
         simp only [Bool.false_eq_true, if_false]
         rw [htab.2.1, htab.2.2.2.2.2.1 h89]; rfl
        have hx : n.kids[1]? = some n.kids[1] := List.getElem?_eq_getElem (by omega)
        have i1 : idx n.kids 1 = some n.kids[1] := by rw [← hx]; exact idx_nat (k := 1)
        have hwk := NodeA.words_num (NodeA.words_kid hw (List.getElem_mem (show 1 < n.kids.length by omega)))
        obtain ⟨z, hz1, hz2⟩ := Natural_eq (K := K) hwk
        unfold lastC
        simp only [i1, hx, Option.bind_some, Option.all_some, hz1, hz2, a39, Bool.false_eq_true, if_false]
        cases (n.op == 8) with
        | true => cases (n.kids[1].op == 1) <;> rfl
        | false =>
         cases (n.op == 9) with
         | false => rfl
         | true => cases (n.kids[1].op == 1) <;> rfl
       ·have h8 : (n.op == 8) = false := by revert h89; cases (n.op == 8) <;> simp
        have h9 : (n.op == 9) = false := by revert h89; cases (n.op == 9) <;> simp
        unfold lastC
        rw [h8, h9]
        by_cases h39 : (n.op == 39) = true
        ·have a10 : (n.op == 10 || n.op == 37) = false := by rw [Bool.eq_false_iff]; intro hc; simp at hc h39; omega
         have h1 : n.kids.length = 1 := by
          rw [hlen]; unfold kidV digs
          rw [a10]
          simp only [Bool.false_eq_true, if_false]
          rw [htab.2.1, htab.2.2.2.2.1 (by simpa using h39)]; rfl
         have hx : n.kids[0]? = some n.kids[0] := List.getElem?_eq_getElem (by omega)
         have i0 : idx n.kids 0 = some n.kids[0] := by rw [← hx]; exact idx_nat (k := 0)
         have hs0 := NodeA.size_lt (List.getElem_mem (show 0 < n.kids.length by omega))
         simp only [h39, Bool.false_eq_true, if_false, if_true, i0, hx, Option.bind_some, Option.all_some, r08_differential_eq (show n.kids[0].size ≤ K by omega) (show n.kids[0].size ≤ 4611686018427387904 by omega)]
        ·have h39' : (n.op == 39) = false := by simpa using h39
         rw [h39']; rfl
    ·have e : (((kidV n).size : Int) != (n.kids.length : Int)) = true := by rw [← hdl]; simp; omega
     have e2 : ((n.kids.map fun x => sortS x.op) == digs (kidV n)) = false := by
      rw [beq_eq_false_iff_ne]; intro hq; apply hlen; rw [← hq]; simp
     rw [e, e2]; rfl
   ·have e0 : (sortS n.op != s) = true := by simpa using hsort
    have e1 : (sortS n.op == s) = false := by simpa using hsort
    rw [e0, e1]; rfl
  ·show r08_flow_body K (grp_r08_well K k).1 (grp_r08_well K k).2 n t f = _
   generalize (grp_r08_well K k).1 = S1 at ih1 ⊢
   generalize (grp_r08_well K k).2 = S2 at ih2 ⊢
   rw [← flow_eq h54]
   have hl := n.kids_lt
   have hbig : n.size ≤ 1099511627776 := hb
   have hprim : primS n = n.kids.any primS := by rw [primS_eq, h54]; rfl
   unfold r08_flow_body
   by_cases h2 : 2 ≤ n.kids.length
   ·have hd : decide ((n.kids.length : Int) < 2) = false := by simp; omega
    have e3 : IntKind.wrap .i64 ((n.kids.length : Int) - 1) = ((n.kids.length - 1 : Nat) : Int) := by rw [w64 (by omega) (by omega)]; omega
    have e4 : IntKind.wrap .i64 ((n.kids.length : Int) - 2) = ((n.kids.length - 2 : Nat) : Int) := by rw [w64 (by omega) (by omega)]; omega
    have hx : n.kids[n.kids.length - 1]? = some n.kids[n.kids.length - 1] := List.getElem?_eq_getElem (by omega)
    have hm : n.kids[n.kids.length - 1] ∈ n.kids := List.getElem_mem (by omega)
    have hsz := NodeA.size_lt hm
    simp only [hd, Bool.false_eq_true, if_false, r08_primed_eq (show n.size ≤ K by omega) (show n.size ≤ 4611686018427387904 by omega), Option.bind_some, e3, e4, idx_nat, hx,
     ih1 n.kids[n.kids.length - 1] 2 t f (by omega) (by omega) (by unfold big; omega) (NodeA.words_kid hw hm) (by omega), decide_eq_true h2, Bool.true_and, Option.all_some, hprim]
    cases hp : n.kids.any primS with
    | true => rfl
    | false =>
    simp only [Bool.false_eq_true, if_false, Bool.not_false, Bool.true_and, Option.bind_some]
    cases hlast : (sortS n.kids[n.kids.length - 1].op == 2 && okS n.kids[n.kids.length - 1] t f false) with
    | false => rfl
    | true =>
    simp only [Bool.not_true, Bool.false_eq_true, if_false, Option.bind_some, Out.fin_go, Bool.true_and]
    refine ob _ (scanG (n.kids.length - 1) (fun i => (i : Int)) (fun i => (n.kids[i]?).all fun (x : NodeA) =>
   !(x.op == 56 && decide ((i : Int) < ((n.kids.length - 2 : Nat) : Int)) || (x.op != 56 && x.op != 55 || !(sortS x.op == 4 && okS x t f false))) && (n.kids.take i).all fun y => !(x.op == 55 && y.name.toList == x.name.toList)) false () (fun g i hi => ?_) (fun g => ?_) (by omega) rfl) ?_
    ·have hi' : i < n.kids.length := by omega
     have hx : n.kids[i]? = some n.kids[i] := List.getElem?_eq_getElem hi'
     have hm := List.getElem_mem hi'
     have hs' := NodeA.size_lt hm
     have hbk : n.kids[i].size ≤ big := by unfold big; omega
     have hd : decide ((i : Int) < ((n.kids.length - 1 : Nat) : Int)) = true := by simp; omega
     have e56 : (n.kids[i].op != 56) = !(n.kids[i].op == 56) := rfl
     have e55 : (n.kids[i].op != 55) = !(n.kids[i].op == 55) := rfl
     simp only [hd, if_true, idx_nat, hx, Option.bind_some, ih1 n.kids[i] 4 t f (by omega) (by omega) hbk (NodeA.words_kid hw hm) (by omega), Option.all_some]
     rw [w64s (by omega)]
     refine ob (if (!(n.kids[i].op == 56 && decide ((i : Int) < ((n.kids.length - 2 : Nat) : Int)) || (n.kids[i].op != 56 && n.kids[i].op != 55 || !(sortS n.kids[i].op == 4 && okS n.kids[i] t f false))) && (n.kids.take i).all fun y => !(n.kids[i].op == 55 && y.name.toList == n.kids[i].name.toList)) then .go () else .out (.out false)) ?_ ?_
     ·refine ob (if !(n.kids[i].op == 56 && decide ((i : Int) < ((n.kids.length - 2 : Nat) : Int)) || (n.kids[i].op != 56 && n.kids[i].op != 55 || !(sortS n.kids[i].op == 4 && okS n.kids[i] t f false))) then .go () else .out (.out (.out false))) ?_ ?_
      ·rw [e56, e55]
       cases (n.kids[i].op == 56) <;> cases decide ((i : Int) < ((n.kids.length - 2 : Nat) : Int)) <;> cases (n.kids[i].op == 55) <;> cases (sortS n.kids[i].op == 4 && okS n.kids[i] t f false) <;> rfl
      ·cases (n.kids[i].op == 56 && decide ((i : Int) < ((n.kids.length - 2 : Nat) : Int)) || (n.kids[i].op != 56 && n.kids[i].op != 55 || !(sortS n.kids[i].op == 4 && okS n.kids[i] t f false))) with
       | true => rfl
       | false =>
        simp only [Bool.not_false, if_true, Out.fin_go, Bool.true_and]
        have hti : (n.kids.take i).length = i := by rw [List.length_take]; omega
        refine ob _ (scanG (n.kids.take i).length (fun j => (j : Int)) (fun j => ((n.kids.take i)[j]?).all fun y => !(n.kids[i].op == 55 && y.name.toList == n.kids[i].name.toList)) (.out (.out false)) () (fun g' j hj => ?_) (fun g' => ?_) (by omega) rfl) ?_
        ·have hy : (n.kids.take i)[j]? = some (n.kids.take i)[j] := List.getElem?_eq_getElem hj
         have hy' : n.kids[j]? = some (n.kids.take i)[j] := by rw [← hy, List.getElem?_take, if_pos (by omega)]
         have hd : decide ((j : Int) < (i : Int)) = true := by simp; omega
         simp only [hd, if_true, idx_nat, hy, hy', Option.bind_some, andO, Option.all_some]
         rw [w64s (by omega)]
         cases (n.kids[i].op == 55 && (n.kids.take i)[j].name.toList == n.kids[i].name.toList) <;> rfl
        ·have hd : decide (((n.kids.take i).length : Int) < (i : Int)) = false := by rw [hti]; simp
         simp only [hd, Bool.false_eq_true, if_false]
        ·rw [range_all]
         cases ((n.kids.take i).all fun y => !(n.kids[i].op == 55 && y.name.toList == n.kids[i].name.toList)) <;> rfl
     ·cases (!(n.kids[i].op == 56 && decide ((i : Int) < ((n.kids.length - 2 : Nat) : Int)) || (n.kids[i].op != 56 && n.kids[i].op != 55 || !(sortS n.kids[i].op == 4 && okS n.kids[i] t f false))) && (n.kids.take i).all fun y => !(n.kids[i].op == 55 && y.name.toList == n.kids[i].name.toList)) <;> rfl
    ·have hd : decide (((n.kids.length - 1 : Nat) : Int) < ((n.kids.length - 1 : Nat) : Int)) = false := by simp
     simp only [hd, Bool.false_eq_true, if_false]
    ·cases ((List.range (n.kids.length - 1)).all fun i => (n.kids[i]?).all fun x =>
   !(x.op == 56 && decide ((i : Int) < ((n.kids.length - 2 : Nat) : Int)) || (x.op != 56 && x.op != 55 || !(sortS x.op == 4 && okS x t f false))) && (n.kids.take i).all fun y => !(x.op == 55 && y.name.toList == x.name.toList)) <;> rfl
   ·have hd : decide ((n.kids.length : Int) < 2) = true := by simp; omega
    rw [hd, decide_eq_false h2]; rfl
end Go.Proofs.YtfnfjjgphhoigaaGreat
namespace Go.Proofs.YtfnfjjgphhoigaaGreat
open Go Go.Iso Go.Proofs
set_option linter.unusedSimpArgs false
set_option linter.unusedVariables false
set_option maxRecDepth 100000
/-! ### Check -/
def checkS (n : NodeA) (s : Int) : Int :=
 if decide (s < 1) || decide (3 < s) then 1 else if decide ((n.size : Int) ≤ 4000) && decide ((n.lev : Int) ≤ 60) then (if sortS n.op != s then 80 else if !okS n false false false then 3 else 0) else 2
theorem tree_Check_eq {K : Nat} {n : NodeA} {s : Int} (hK : 12 < K) (hK2 : 2 * n.size ≤ K) (hb : n.size ≤ big) : tree_Check K n s = some (checkS n s) := by
 unfold tree_Check checkS
 simp only [orO, Option.bind_some]
 cases hs : (decide (s < 1) || decide (3 < s)) with
 | true => rfl
 | false =>
  simp only [Bool.false_eq_true, if_false, Option.bind_some, Out.fin_go]
  obtain ⟨r, hr, hw⟩ := tree_within_eq (show n.size ≤ K by omega) hb
  rw [hr]
  simp only [Option.bind_some]
  unfold Within at hw
  by_cases hc : (n.size : Int) ≤ 4000 ∧ (n.lev : Int) ≤ 60
  ·rw [if_pos hc] at hw
   subst hw
   rw [decide_eq_true hc.1, decide_eq_true hc.2]
   simp only [Bool.not_true, Bool.false_eq_true, if_false, tree_Sort_eq, Option.bind_some, Bool.and_self, if_true]
   by_cases h2 : sortS n.op = s
   ·have e : (sortS n.op != s) = false := by simp [h2]
    have h0 : sortS n.op ≠ 0 := by rw [h2]; intro hz; subst hz; revert hs; decide
    rw [e]
    simp only [Bool.false_eq_true, if_false]
    have : tree_formed K n (Tree_placeA.mk false false false) = some (okS n false false false) := formed_iter hK K n ⟨false, false, false⟩ (by omega) (by omega) hb h0
    rw [this]
    simp only [Option.bind_some]
    cases okS n false false false <;> rfl
   ·have e : (sortS n.op != s) = true := by simp [h2]
    rw [e]; rfl
  ·rw [if_neg hc] at hw
   rw [hw]
   have : (decide ((n.size : Int) ≤ 4000) && decide ((n.lev : Int) ≤ 60)) = false := by
    rw [Bool.and_eq_false_iff, decide_eq_false_iff_not, decide_eq_false_iff_not]
    by_cases h1 : (n.size : Int) ≤ 4000
    ·exact .inr fun h2 => hc ⟨h1, h2⟩
    ·exact .inl h1
   rw [this]; rfl
theorem r08_well_eq {K : Nat} {n : NodeA} {s : Int} (hK : 12 < K) (hK2 : 2 * n.size ≤ K) (hb : n.size ≤ big) (hw : n.words) (hs : s ≠ 0) : r08_well K n s false false = some (sortS n.op == s && okS n false false false) :=
 (well_iter hK K).1 n s false false hK2 hK2 hb hw hs
theorem r08_Check_eq {K : Nat} {n : NodeA} {s : Int} (hK : 12 < K) (hK2 : 2 * n.size ≤ K) (hb : n.size ≤ big) (hw : n.words) : r08_Check K n s = some (checkS n s) := by
 unfold r08_Check checkS
 simp only [orO, Option.bind_some]
 cases hs : (decide (s < 1) || decide (3 < s)) with
 | true => rfl
 | false =>
  simp only [Bool.false_eq_true, if_false, r08_Size_eq (show n.size ≤ K by omega) hb, r08_Levels_eq (show n.size ≤ K by omega) hb, Option.bind_some, orO]
  by_cases hc : (n.size : Int) ≤ 4000 ∧ (n.lev : Int) ≤ 60
  ·have e1 : decide ((4000 : Int) < (n.size : Int)) = false := by simp; omega
   have e2 : decide ((60 : Int) < (n.lev : Int)) = false := by simp; omega
   rw [e1, e2, decide_eq_true hc.1, decide_eq_true hc.2]
   simp only [Bool.or_self, Bool.false_eq_true, if_false, r08_Sort_eq, Option.bind_some, Bool.and_self, if_true]
   by_cases h2 : sortS n.op = s
   ·have e : (sortS n.op != s) = false := by simp [h2]
    have e' : (sortS n.op == s) = true := by simp [h2]
    have h0 : s ≠ 0 := by intro hz; subst hz; revert hs; decide
    rw [e]
    simp only [Bool.false_eq_true, if_false, r08_well_eq hK hK2 hb hw h0, Option.bind_some, e', Bool.true_and]
    cases okS n false false false <;> rfl
   ·have e : (sortS n.op != s) = true := by simp [h2]
    rw [e]; rfl
  ·have : (decide ((n.size : Int) ≤ 4000) && decide ((n.lev : Int) ≤ 60)) = false := by
    rw [Bool.and_eq_false_iff, decide_eq_false_iff_not, decide_eq_false_iff_not]
    by_cases h1 : (n.size : Int) ≤ 4000
    ·exact .inr fun h2 => hc ⟨h1, h2⟩
    ·exact .inl h1
   have e : (decide ((4000 : Int) < (n.size : Int)) || decide ((60 : Int) < (n.lev : Int))) = true := by
    rw [Bool.or_eq_true, decide_eq_true_eq, decide_eq_true_eq]
    by_cases h1 : (n.size : Int) ≤ 4000
    ·exact .inr (by have : ¬ (n.lev : Int) ≤ 60 := fun h2 => hc ⟨h1, h2⟩; omega)
    ·exact .inl (by omega)
   rw [this, e]; rfl
def rootS (n : NodeA) : Int := if sortS n.op == 0 || sortS n.op == 4 then 80 else checkS n (sortS n.op)
theorem rootS_ok {n : NodeA} (h : rootS n = 0) : okS n false false false = true ∧ sortS n.op ≠ 0 := by
 unfold rootS at h
 cases hs : (sortS n.op == 0 || sortS n.op == 4) with
 | true => rw [hs] at h; cases h
 | false =>
  rw [hs] at h
  simp only [Bool.false_eq_true, if_false] at h
  have h0 : sortS n.op ≠ 0 := by intro hz; rw [hz] at hs; revert hs; decide
  refine ⟨?_, h0⟩
  unfold checkS at h
  revert h
  cases (decide (sortS n.op < 1) || decide (3 < sortS n.op)) <;> cases (decide ((n.size : Int) ≤ 4000) && decide ((n.lev : Int) ≤ 60)) <;> cases hq : (sortS n.op != sortS n.op) <;> cases okS n false false false <;> simp
/-! ### Nodes -/
def Fine (n : NodeA) : Prop := ∃ d fd fl, okS n d fd fl = true
theorem fine_kid {n k : NodeA} (h : Fine n) (hk : k ∈ n.kids) : Fine k := by
 obtain ⟨d, fd, fl, h⟩ := h
 rw [okS_eq] at h
 simp only [Bool.and_eq_true, List.all_eq_true] at h
 exact ⟨_, _, _, h.2.2.2.2.1 k hk⟩
end Go.Proofs.YtfnfjjgphhoigaaGreat
namespace Go.Proofs.YtfnfjjgphhoigaaGreat
open Go Go.Iso Go.Proofs
set_option linter.unusedSimpArgs false
set_option linter.unusedVariables false
set_option maxRecDepth 100000
/-! ### Variables -/
def unpB (s : ByteArray) : ByteArray := if 0 < s.size ∧ s[s.size - 1]? = some 39 then s.extract 0 (s.size - 1) else s
def varB (s : ByteArray) : Bool := nameB (unpB s)
/-! ### Sets -/
def topV : Nat := 1000000000000
abbrev tick : ByteArray := ⟨#[39]⟩
structure Uni (V : List ByteArray) : Prop where
 siz : ∀ x ∈ V, x.size < 100
 top : V.length ≤ topV
 cls : ∀ x ∈ V, x[x.size - 1]? ≠ some 39 → x ++ tick ∈ V
structure Good (V : List ByteArray) (A : Api_NamesA) : Prop where
 sp : SP A.list
 var : ∀ x ∈ A.list, varB x = true
 sub : ∀ x ∈ A.list, x ∈ V
 uni : Uni V
theorem Good.len {V : List ByteArray} {A : Api_NamesA} (h : Good V A) : A.list.length ≤ V.length := nodup_len (sp_nodup h.sp) h.sub
theorem Good.lt {V : List ByteArray} {A : Api_NamesA} (h : Good V A) : A.list.length ≤ topV := Nat.le_trans h.len h.uni.top
/-! ### Mixing -/
theorem appO_one {l : List ByteArray} {x : ByteArray} (h : l.length ≤ 4 * topV) : appO 16 l [x] = some (l ++ [x]) := by
 unfold appO topV at *
 rw [if_pos (by simp only [List.length_singleton]; omega)]
/-! ### The operations -/
def unionS (a b : Api_NamesA) : Api_NamesA :=
 if a.all = true then (if b.all = true then ⟨true, mixS false true false a.list b.list⟩ else ⟨true, mixS true false false a.list b.list⟩)
 else if b.all = true then ⟨true, mixS false false true a.list b.list⟩ else ⟨false, mixS true true true a.list b.list⟩
def KOk (V : List ByteArray) (K : Nat) : Prop := 12 < K ∧ 2 * V.length < K
section
variable {V : List ByteArray} {A B : Api_NamesA} {K : Nat}
theorem good_mix (ha : Good V A) (hb : Good V B) (x l bo r : Bool) : Good V ⟨x, mixS l bo r A.list B.list⟩ :=
 ⟨sp_mix ha.sp hb.sp, fun y hy => (sub_mix ha.sp hb.sp hy).elim (ha.var y) (hb.var y), fun y hy => (sub_mix ha.sp hb.sp hy).elim (ha.sub y) (hb.sub y), ha.uni⟩
theorem good_union (ha : Good V A) (hb : Good V B) : Good V (unionS A B) := by
 unfold unionS; split <;> split <;> exact good_mix ha hb _ _ _ _
theorem good_one {x : ByteArray} (hV : Uni V) (hx : varB x = true) (hm : x ∈ V) : Good V ⟨false, [x]⟩ :=
 ⟨by simp, fun y hy => by rw [List.mem_singleton] at hy; rw [hy]; exact hx, fun y hy => by rw [List.mem_singleton] at hy; rw [hy]; exact hm, hV⟩
theorem good_none (hV : Uni V) (x : Bool) : Good V ⟨x, []⟩ := ⟨by simp, fun y hy => (by cases hy), fun y hy => (by cases hy), hV⟩
/-! ### Members -/
end
/-! ### Primes -/
theorem tick_size {x : ByteArray} : (x ++ tick).size = x.size + 1 := by simp [ByteArray.size_append]; rfl
theorem tick_last {x : ByteArray} : (x ++ tick)[(x ++ tick).size - 1]? = some 39 := by
 rw [tick_size, getElem?_pos (x ++ tick) (x.size + 1 - 1) (by rw [tick_size]; omega)]
 congr 1
 simp only [Nat.add_sub_cancel]
 rw [ByteArray.getElem_append_right (by omega)]
 simp only [Nat.sub_self]
 rfl
theorem tick_cut {x : ByteArray} : (x ++ tick).extract 0 ((x ++ tick).size - 1) = x := by
 rw [tick_size, Nat.add_sub_cancel]
 apply toList_inj
 rw [bytes_toList, bytes_toList]
 have e : x.data.toList.length = x.size := rfl
 rw [ByteArray.data_extract, ByteArray.data_append, Array.toList_extract, Array.toList_append, List.extract_eq_take_drop, List.drop_zero, Nat.sub_zero, ← e, List.take_left']
 rfl
theorem unp_tick {x : ByteArray} : unpB (x ++ tick) = x := by
 unfold unpB
 rw [if_pos ⟨by rw [tick_size]; omega, tick_last⟩, tick_cut]
theorem name_size {x : ByteArray} (h : nameB x = true) : 0 < x.size ∧ x.size ≤ 12 := by
 unfold nameB at h
 simp only [Bool.and_eq_true, Bool.not_eq_true', Bool.or_eq_false_iff] at h
 obtain ⟨⟨h1, h2, _⟩, _⟩ := h
 have h1 : (x.size : Int) ≠ 0 := by simpa using h1
 have h2 : ¬ (12 : Int) < (x.size : Int) := of_decide_eq_false h2
 omega
theorem catO_tick {x : ByteArray} (h : x.size < 100) : catO x tick = some (x ++ tick) := by
 unfold catO
 rw [if_pos]
 have : tick.size = 1 := rfl
 rw [this]
 have : IntKind.i64.max = 9223372036854775807 := by decide
 rw [this]; omega
end Go.Proofs.YtfnfjjgphhoigaaGreat
namespace Go.Proofs.YtfnfjjgphhoigaaGreat
open Go Go.Iso Go.Proofs
set_option linter.unusedSimpArgs false
set_option linter.unusedVariables false
set_option maxRecDepth 100000
theorem static_mix_eq {K : Nat} {a b : List ByteArray} {l bo r : Bool} (ha : a.length ≤ topV) (hb : b.length ≤ topV) (hK : a.length + b.length < K) : static_mix K a b l bo r = some (mixS l bo r a b) := by
 unfold static_mix
 have ht : topV = 1000000000000 := rfl
 refine ob (mixS l bo r a b) ?_ rfl
 refine (iter_eq (S := Int × Int × List ByteArray) (R := List ByteArray) (fun s => some (s.2.2 ++ mixS l bo r (a.drop s.1.toNat) (b.drop s.2.1.toNat)))
  (fun s => ∃ i j : Nat, s.1 = i ∧ s.2.1 = j ∧ i ≤ a.length ∧ j ≤ b.length ∧ s.2.2.length ≤ i + j) (fun s => (a.length - s.1.toNat) + (b.length - s.2.1.toNat)) ?_ K (0, 0, []) ⟨0, 0, rfl, rfl, Nat.zero_le _, Nat.zero_le _, Nat.le_refl _⟩ (by simpa using hK)).trans ?_
 rotate_left
 ·simp
 rintro ⟨z1, z2, out⟩ ⟨i, j, h1, h2, hi, hj, ho⟩ g hg
 simp only at h1 h2 ho
 subst h1 h2
 have hop : ∀ (c : Bool) (x : ByteArray) (m : List ByteArray), ∃ o2, (if c = true then (appO 16 out [x]).bind fun l25 => some l25 else some out) = some o2 ∧ o2 ++ m = out ++ ((if c = true then [x] else []) ++ m) ∧ o2.length ≤ out.length + 1 := by
  intro c x m
  cases c
  ·exact ⟨out, by simp, by simp, by omega⟩
  ·exact ⟨out ++ [x], by rw [if_pos rfl, appO_one (by omega)]; rfl, by simp, by simp⟩
 by_cases hi' : i < a.length
 ·have d1 : decide ((i : Int) < (a.length : Int)) = true := by simp; omega
  have n1 : ((i : Int) == (a.length : Int)) = false := by simp; omega
  have hx : a[i]? = some a[i] := List.getElem?_eq_getElem hi'
  by_cases hj' : j < b.length
  ·have n2 : ((j : Int) == (b.length : Int)) = false := by simp; omega
   have hy : b[j]? = some b[j] := List.getElem?_eq_getElem hj'
   simp only [d1, if_true, Option.bind_some, Out.fin_go, n2, Bool.false_eq_true, if_false, idx_nat, hx, hy, n1]
   simp only [Int.toNat_natCast]
   rw [List.drop_eq_getElem_cons hi', List.drop_eq_getElem_cons hj', mixS]
   cases e1 : Op.bytesLess a[i].toList b[j].toList with
   | true =>
    simp only [if_true]
    obtain ⟨o2, q1, q2, q3⟩ := hop l a[i] (mixS l bo r (a.drop (i + 1)) (b[j] :: b.drop (j + 1)))
    rw [q1]
    simp only [Option.bind_some]
    rw [w64s (by omega), hg _ ⟨i + 1, j, rfl, rfl, hi', hj, by simp only; omega⟩ (by simp only [Int.toNat_natCast]; omega)]
    simp only [Int.toNat_natCast]
    rw [if_pos (show ltS a[i] b[j] = true from e1), ← q2, ← List.drop_eq_getElem_cons hj']
   | false =>
    simp only [Bool.false_eq_true, if_false]
    rw [if_neg (show ¬ ltS a[i] b[j] = true by rw [show ltS a[i] b[j] = false from e1]; simp)]
    cases e2 : Op.bytesLess b[j].toList a[i].toList with
    | true =>
     simp only [if_true]
     obtain ⟨o2, q1, q2, q3⟩ := hop r b[j] (mixS l bo r (a[i] :: a.drop (i + 1)) (b.drop (j + 1)))
     rw [q1]
     simp only [Option.bind_some]
     rw [w64s (by omega), hg _ ⟨i, j + 1, rfl, rfl, hi, hj', by simp only; omega⟩ (by simp only [Int.toNat_natCast]; omega)]
     simp only [Int.toNat_natCast]
     rw [if_pos (show ltS b[j] a[i] = true from e2), ← q2, ← List.drop_eq_getElem_cons hi']
    | false =>
     simp only [Bool.false_eq_true, if_false]
     obtain ⟨o2, q1, q2, q3⟩ := hop bo a[i] (mixS l bo r (a.drop (i + 1)) (b.drop (j + 1)))
     rw [q1]
     simp only [Option.bind_some]
     rw [w64s (by omega), w64s (by omega), hg _ ⟨i + 1, j + 1, rfl, rfl, hi', hj', by simp only; omega⟩ (by simp only [Int.toNat_natCast]; omega)]
     simp only [Int.toNat_natCast]
     rw [if_neg (show ¬ ltS b[j] a[i] = true by rw [show ltS b[j] a[i] = false from e2]; simp), ← q2]
  ·have hjb : j = b.length := by omega
   subst hjb
   have n2 : ((b.length : Int) == (b.length : Int)) = true := by simp
   simp only [d1, if_true, Option.bind_some, Out.fin_go, n2, idx_nat, hx]
   obtain ⟨o2, q1, q2, q3⟩ := hop l a[i] (mixS l bo r (a.drop (i + 1)) [])
   rw [q1]
   simp only [Option.bind_some]
   rw [w64s (by omega), hg _ ⟨i + 1, b.length, rfl, rfl, hi', hj, by simp only; omega⟩ (by simp only [Int.toNat_natCast]; omega)]
   simp only [Int.toNat_natCast, List.drop_length]
   rw [List.drop_eq_getElem_cons hi', mixS, ← q2]
 ·have hia : i = a.length := by omega
  subst hia
  have d1 : decide ((a.length : Int) < (a.length : Int)) = false := by simp
  by_cases hj' : j < b.length
  ·have d2 : decide ((j : Int) < (b.length : Int)) = true := by simp; omega
   have n1 : ((a.length : Int) == (a.length : Int)) = true := by simp
   have n2 : ((j : Int) == (b.length : Int)) = false := by simp; omega
   have hy : b[j]? = some b[j] := List.getElem?_eq_getElem hj'
   simp only [d1, d2, if_true, Bool.false_eq_true, if_false, Option.bind_some, Out.fin_go, n1, n2, idx_nat, hy]
   obtain ⟨o2, q1, q2, q3⟩ := hop r b[j] (mixS l bo r [] (b.drop (j + 1)))
   rw [q1]
   simp only [Option.bind_some]
   rw [w64s (by omega), hg _ ⟨a.length, j + 1, rfl, rfl, hi, hj', by simp only; omega⟩ (by simp only [Int.toNat_natCast]; omega)]
   simp only [Int.toNat_natCast, List.drop_length]
   rw [List.drop_eq_getElem_cons hj', mixS, ← q2]
  ·have hjb : j = b.length := by omega
   subst hjb
   have d2 : decide ((b.length : Int) < (b.length : Int)) = false := by simp
   simp only [d1, d2, Bool.false_eq_true, if_false, Option.bind_some, outM_eq, Out.fin_out, Int.toNat_natCast, List.drop_length]
   rw [mixS]; simp
section
variable {V : List ByteArray} {A B : Api_NamesA} {K : Nat}
theorem static_union_eq (ha : Good V A) (hb : Good V B) (hK : KOk V K) : static_union K A B = some (unionS A B) := by
 have h1 := ha.len
 have h2 := hb.len
 have hm : ∀ l bo r, static_mix K A.list B.list l bo r = some (mixS l bo r A.list B.list) := fun l bo r => static_mix_eq ha.lt hb.lt (by have := hK.2; omega)
 unfold static_union unionS
 simp only [hm, Option.bind_some]
 cases A.all <;> cases B.all <;> rfl
end
end Go.Proofs.YtfnfjjgphhoigaaGreat
namespace Go.Proofs.YtfnfjjgphhoigaaGreat
open Go Go.Iso Go.Proofs
set_option linter.unusedSimpArgs false
set_option linter.unusedVariables false
set_option maxRecDepth 100000
def namesN : NodeA → List ByteArray
 | .mk _ name _ kids => name :: (kids.attach.map fun ⟨k, _⟩ => namesN k).flatten
termination_by n => SizeOf.sizeOf n
decreasing_by exact NodeA.size_kid (by assumption)
theorem names_mk {o : Int} {m : ByteArray} {r : RatA} {ks : List NodeA} : namesN (.mk o m r ks) = m :: (ks.map namesN).flatten := by
 rw [namesN]; simp
theorem names_len : ∀ n : NodeA, (namesN n).length = n.size := NodeA.ind fun n ih => by
 cases n with
 | mk o m r ks =>
  rw [names_mk, NodeA.size_mk, List.length_cons, List.length_flatten, List.map_map]
  have : ks.map (List.length ∘ namesN) = ks.map NodeA.size := List.map_congr_left fun k hk => ih k hk
  rw [this]; omega
theorem names_self (n : NodeA) : n.name ∈ namesN n := by cases n; rw [names_mk]; exact List.mem_cons_self ..
theorem names_kid {n k : NodeA} (hk : k ∈ n.kids) {x : ByteArray} (hx : x ∈ namesN k) : x ∈ namesN n := by
 cases n with
 | mk o m r ks =>
  rw [names_mk]
  exact List.mem_cons_of_mem _ (List.mem_flatten.2 ⟨_, List.mem_map_of_mem hk, hx⟩)
def uniL (n : NodeA) : List ByteArray := (namesN n).filter nameB ++ ((namesN n).filter nameB).map (· ++ tick)
def Cov (V : List ByteArray) (n : NodeA) : Prop := ∀ x ∈ namesN n, nameB x = true → x ∈ V ∧ x ++ tick ∈ V
theorem cov_kid {V : List ByteArray} {n k : NodeA} (h : Cov V n) (hk : k ∈ n.kids) : Cov V k := fun x hx => h x (names_kid hk hx)
theorem cov_uni (n : NodeA) : Cov (uniL n) n := fun x hx hn => by
 have : x ∈ (namesN n).filter nameB := List.mem_filter.2 ⟨hx, hn⟩
 exact ⟨List.mem_append_left _ this, List.mem_append_right _ (List.mem_map_of_mem this)⟩
theorem uni_uni {n : NodeA} (h : n.size ≤ 100000000) : Uni (uniL n) where
 siz := fun x hx => by
  unfold uniL at hx
  rcases List.mem_append.1 hx with hx | hx
  ·have := (name_size (List.mem_filter.1 hx).2).2; omega
  ·obtain ⟨y, hy, rfl⟩ := List.mem_map.1 hx
   have := (name_size (List.mem_filter.1 hy).2).2
   rw [tick_size]; omega
 top := by
  unfold uniL topV
  rw [List.length_append, List.length_map]
  have := List.length_filter_le nameB (namesN n)
  rw [names_len] at this; omega
 cls := fun x hx h39 => by
  unfold uniL at hx ⊢
  rcases List.mem_append.1 hx with hx | hx
  ·exact List.mem_append_right _ (List.mem_map_of_mem hx)
  ·obtain ⟨y, hy, rfl⟩ := List.mem_map.1 hx
   exact absurd tick_last h39
theorem name_last {x : ByteArray} (h : nameB x = true) : x[x.size - 1]? ≠ some 39 := by
 intro h39
 have hs := (name_size h).1
 unfold nameB at h
 rw [Bool.and_eq_true, List.all_eq_true] at h
 have := h.2 (x.size - 1) (List.mem_range.2 (by omega))
 rw [h39] at this
 have e : (letB ((39 : UInt8).toNat : Int)) = false := by decide
 have e2 : (digB ((39 : UInt8).toNat : Int)) = false := by decide
 rw [Option.all_some, e, e2] at this
 simp at this
theorem name_var {x : ByteArray} (h : nameB x = true) : varB x = true := by
 unfold varB unpB
 rw [if_neg (fun h2 => name_last h h2.2)]; exact h
theorem tick_var {x : ByteArray} (h : nameB x = true) : varB (x ++ tick) = true := by
 unfold varB; rw [unp_tick]; exact h
theorem fine_name {n : NodeA} (h : Fine n) (hn : namedS n.op = true) : nameB n.name = true := by
 obtain ⟨d, fd, fl, h⟩ := h
 rw [okS_eq] at h
 simp only [Bool.and_eq_true] at h
 have := h.2.1
 unfold nameC at this
 rw [hn] at this
 simpa using this
theorem fine_sorts {n : NodeA} (h : Fine n) : (n.kids.map fun x => sortS x.op) = sortsC n := by
 obtain ⟨d, fd, fl, h⟩ := h
 rw [okS_eq] at h
 simp only [Bool.and_eq_true] at h
 exact eq_of_beq h.2.2.2.1
theorem fine_len {n : NodeA} (h : Fine n) : n.kids.length = (sortsC n).length := by rw [← fine_sorts h, List.length_map]
theorem kid0 {n : NodeA} (h : 0 < n.kids.length) : ∃ k ∈ n.kids, idx n.kids 0 = some k ∧ n.kids[0]? = some k := ⟨n.kids[0], List.getElem_mem h, by rw [show (0 : Int) = ((0 : Nat) : Int) from rfl, idx_nat]; exact List.getElem?_eq_getElem h, List.getElem?_eq_getElem h⟩
theorem kid1 {n : NodeA} (h : 1 < n.kids.length) : ∃ k ∈ n.kids, idx n.kids 1 = some k ∧ n.kids[1]? = some k := ⟨n.kids[1], List.getElem_mem h, by rw [show (1 : Int) = ((1 : Nat) : Int) from rfl, idx_nat]; exact List.getElem?_eq_getElem h, List.getElem?_eq_getElem h⟩
abbrev noneS : Api_NamesA := ⟨false, []⟩
abbrev allS : Api_NamesA := ⟨true, []⟩
abbrev oneS (x : ByteArray) : Api_NamesA := ⟨false, [x]⟩
def unL (s : Api_NamesA) (l : List Api_NamesA) : Api_NamesA := l.foldl unionS s
section
variable {V : List ByteArray}
theorem good_unL : ∀ {l : List Api_NamesA} {s : Api_NamesA}, Good V s → (∀ x ∈ l, Good V x) → Good V (unL s l)
 | [], s, h, _ => h
 | x :: l, s, h, hl => good_unL (l := l) (good_union h (hl x (List.mem_cons_self ..))) fun y hy => hl y (List.mem_cons_of_mem _ hy)
end
theorem sort34 {op : Int} (h : 50 ≤ op) (h2 : op ≤ 62) : sortS op = if op = 55 ∨ op = 56 then 4 else 3 := by
 unfold sortS
 have e1 : (decide (1 ≤ op) && decide (op ≤ 13)) = false := by simp; omega
 have e2 : (decide (20 ≤ op) && decide (op ≤ 39)) = false := by simp; omega
 have e4 : (decide (50 ≤ op) && decide (op ≤ 62)) = true := by simp; omega
 rw [e1, e2, e4]
 by_cases h : op = 55 ∨ op = 56
 ·have : (op == 55 || op == 56) = true := by simpa using h
  rw [this, if_pos h]; rfl
 ·have : (op == 55 || op == 56) = false := by simp; omega
  rw [this, if_neg h]; rfl
theorem sort_prog {op : Int} (h : sortS op = 3 ∨ sortS op = 4) : 50 ≤ op ∧ op ≤ 62 := by
 apply Classical.byContradiction
 intro hc
 unfold sortS at h
 have e3 : (op == 55 || op == 56) = false := by simp; omega
 have e4 : (decide (50 ≤ op) && decide (op ≤ 62)) = false := by simp; omega
 rw [e3, e4] at h
 revert h
 cases (decide (1 ≤ op) && decide (op ≤ 13)) <;> cases (decide (20 ≤ op) && decide (op ≤ 39)) <;> simp
section
variable {V : List ByteArray}
theorem good_name {n : NodeA} (hV : Uni V) (hf : Fine n) (hc : Cov V n) (hn : namedS n.op = true) : Good V (oneS n.name) ∧ Good V (oneS (n.name ++ tick)) ∧ n.name.size < 100 := by
 have h1 := fine_name hf hn
 have h2 := hc _ (names_self n) h1
 exact ⟨good_one hV (name_var h1) h2.1, good_one hV (tick_var h1) h2.2, hV.siz _ h2.1⟩
end
theorem named_b {op : Int} (h : op = 2 ∨ op = 3 ∨ op = 33 ∨ op = 34 ∨ op = 50 ∨ op = 51 ∨ op = 52 ∨ op = 55) : namedS op = true := by
 rcases h with rfl | rfl | rfl | rfl | rfl | rfl | rfl | rfl <;> decide +kernel
theorem flow_cut {n : NodeA} (hf : Fine n) (hb : n.size ≤ big) (h54 : n.op = 54) : cutL n.kids none (some (IntKind.wrap .i64 ((n.kids.length : Int) - 1))) = some (n.kids.take (n.kids.length - 1)) ∧ 0 < n.kids.length := by
 have hl := fine_len hf
 have : 0 < n.kids.length := by
  have e : sortsC n = List.replicate (n.kids.length - 1) 4 ++ [2] := by unfold sortsC; rw [h54]; rfl
  rw [e] at hl; simp at hl; omega
 refine ⟨?_, this⟩
 have hkl := n.kids_lt
 unfold big at hb
 rw [w64 (by omega) (by omega)]
 unfold cutL
 simp only [Option.getD_some, Option.getD_none]
 rw [if_pos (by omega)]
 have : ((n.kids.length : Int) - 1).toNat = n.kids.length - 1 := by omega
 simp [this]
theorem sort_cases (op : Int) : sortS op = 0 ∨ sortS op = 1 ∨ sortS op = 2 ∨ sortS op = 3 ∨ sortS op = 4 := by
 unfold sortS
 split
 ·simp
 ·split
  ·simp
  ·split
   ·simp
   ·split <;> simp
theorem op_cases {op : Int} (h : sortS op = 3 ∨ sortS op = 4) : op = 50 ∨ op = 51 ∨ op = 52 ∨ op = 53 ∨ op = 54 ∨ op = 55 ∨ op = 56 ∨ op = 57 ∨ op = 58 ∨ op = 59 ∨ op = 60 ∨ op = 61 ∨ op = 62 := by
 have := sort_prog h; omega
section
variable {V : List ByteArray}
end
section
variable {V : List ByteArray}
end
theorem sorts2 {n : NodeA} {a b : Int} (hf : Fine n) (h : sortsC n = [a, b]) : ∃ k0 k1, n.kids = [k0, k1] ∧ sortS k0.op = a ∧ sortS k1.op = b := by
 have := fine_sorts hf
 rw [h] at this
 match hk : n.kids, this with
 | [k0, k1], this => simp at this; exact ⟨k0, k1, rfl, this.1, this.2⟩
theorem sorts1 {n : NodeA} {a : Int} (hf : Fine n) (h : sortsC n = [a]) : ∃ k0, n.kids = [k0] ∧ sortS k0.op = a := by
 have := fine_sorts hf
 rw [h] at this
 match hk : n.kids, this with
 | [k0], this => simp at this; exact ⟨k0, rfl, this⟩
end Go.Proofs.YtfnfjjgphhoigaaGreat
namespace Go.Proofs.YtfnfjjgphhoigaaGreat
open Go Go.Iso Go.Proofs
set_option linter.unusedSimpArgs false
set_option linter.unusedVariables false
set_option maxRecDepth 100000
/-! ### The names of a tree -/
/-! ### What is known of nodes -/
section
variable {V : List ByteArray}
theorem loop_eq {K : Nat} (L : List NodeA) {self : NodeA → Option Api_NamesA} (f : NodeA → Api_NamesA) {s0 : Api_NamesA} {φ : (Int × Api_NamesA → Option Api_NamesA) → Int × Api_NamesA → Option Api_NamesA} (hs : ∀ x ∈ L, self x = some (f x)) (hg : ∀ x ∈ L, Good V (f x)) (h0 : Good V s0) (hK : KOk V K) (hL : L.length < K) (hb : L.length ≤ big)
  (h1 : ∀ (g : Int × Api_NamesA → Option Api_NamesA) (i : Nat) (s : Api_NamesA) (x : NodeA), decide ((i : Int) < (L.length : Int)) = true → L[i]? = some x → φ g ((i : Int), s) = (self x).bind fun r => (static_union K s r).bind fun r2 => g (IntKind.wrap .i64 ((i : Int) + 1), r2))
  (h2 : ∀ (g : Int × Api_NamesA → Option Api_NamesA) (s : Api_NamesA), φ g ((L.length : Int), s) = some s) : iter K φ (0, s0) = some (unL s0 (L.map f)) := by
 unfold big at hb
 have hgu : ∀ i, Good V (unL s0 ((L.take i).map f)) := fun i => good_unL h0 fun x hx => by
  obtain ⟨y, hy, rfl⟩ := List.mem_map.1 hx
  exact hg y (List.mem_of_mem_take hy)
 refine foldG L.length (fun i => ((i : Int), unL s0 ((L.take i).map f))) _ (fun g i hi => ?_) (fun g => ?_) hL rfl
 ·have hx : L[i]? = some L[i] := List.getElem?_eq_getElem hi
  have hm := List.getElem_mem hi
  have hd : decide ((i : Int) < (L.length : Int)) = true := decide_eq_true (by omega)
  rw [h1 g i _ _ hd hx]
  simp only [Option.bind_some, hs _ hm, static_union_eq (hgu i) (hg _ hm) hK]
  have et : unL s0 ((L.take (i + 1)).map f) = unionS (unL s0 ((L.take i).map f)) (f L[i]) := by
   rw [List.take_add_one, hx]
   simp only [Option.toList_some, List.map_append, List.map_cons, List.map_nil, unL, List.foldl_append, List.foldl_cons, List.foldl_nil]
  rw [w64s (by omega), et]
 ·rw [h2, List.take_length]
/-! ### Bound variables -/
def KS (V : List ByteArray) (n : NodeA) (K : Nat) : Prop := KOk V K ∧ 2 * n.size + 2 < K
theorem ks_kid {n k : NodeA} {K : Nat} (h : KS V n K) (hk : k ∈ n.kids) : KS V k K := ⟨h.1, by have := NodeA.size_lt hk; have := h.2; omega⟩
def IsB (V : List ByteArray) (t : Nat) (n : NodeA) (F : Api_NamesA) : Prop := Good V F ∧ ∀ K j, KS V n K → t < j → (grp_static_BoundOf K j).1 n = some F
def IsE (V : List ByteArray) (t : Nat) (n : NodeA) (F : Api_NamesA) : Prop := Good V F ∧ ∀ K j, KS V n K → t < j → (grp_static_BoundOf K j).2 n = some F
noncomputable def bndS (V : List ByteArray) (n : NodeA) : Api_NamesA := Classical.epsilon (h := ⟨noneS⟩) fun F => IsB V (2 * n.size + 1) n F
noncomputable def evS (V : List ByteArray) (n : NodeA) : Api_NamesA := Classical.epsilon (h := ⟨noneS⟩) fun F => IsE V (2 * n.size + 1) n F
theorem ks_ex (n : NodeA) : KS V n (2 * n.size + 2 * V.length + 13) := ⟨⟨by omega, by omega⟩, by omega⟩
theorem bnd_of {n : NodeA} {t : Nat} {F : Api_NamesA} (h : IsB V t n F) (ht : t ≤ 2 * n.size + 1) : IsB V (2 * n.size + 1) n (bndS V n) ∧ bndS V n = F := by
 have h1 : IsB V (2 * n.size + 1) n F := ⟨h.1, fun K j hK hj => h.2 K j hK (by omega)⟩
 have h2 : IsB V (2 * n.size + 1) n (bndS V n) := Classical.epsilon_spec (p := fun F => IsB V (2 * n.size + 1) n F) ⟨F, h1⟩
 exact ⟨h2, Option.some.inj ((h2.2 _ (2 * n.size + 2) (ks_ex n) (by omega)).symm.trans (h1.2 _ (2 * n.size + 2) (ks_ex n) (by omega)))⟩
theorem ev_of {n : NodeA} {t : Nat} {F : Api_NamesA} (h : IsE V t n F) (ht : t ≤ 2 * n.size + 1) : IsE V (2 * n.size + 1) n (evS V n) ∧ evS V n = F := by
 have h1 : IsE V (2 * n.size + 1) n F := ⟨h.1, fun K j hK hj => h.2 K j hK (by omega)⟩
 have h2 : IsE V (2 * n.size + 1) n (evS V n) := Classical.epsilon_spec (p := fun F => IsE V (2 * n.size + 1) n F) ⟨F, h1⟩
 exact ⟨h2, Option.some.inj ((h2.2 _ (2 * n.size + 2) (ks_ex n) (by omega)).symm.trans (h1.2 _ (2 * n.size + 2) (ks_ex n) (by omega)))⟩
noncomputable def bndE (V : List ByteArray) (n : NodeA) : Api_NamesA :=
 if sortS n.op = 1 then noneS
 else if sortS n.op = 2 then evS V n
 else if n.op = 50 ∨ n.op = 52 then oneS n.name
 else if n.op = 51 then oneS (n.name ++ tick)
 else if n.op = 53 then noneS
 else if n.op = 55 then unionS (oneS n.name) (oneS (n.name ++ tick))
 else if n.op = 56 ∨ n.op = 61 ∨ n.op = 62 then allS
 else if n.op = 54 then unL noneS ((n.kids.take (n.kids.length - 1)).map (bndS V))
 else unL noneS (n.kids.map (bndS V))
noncomputable def evE (V : List ByteArray) (n : NodeA) : Api_NamesA :=
 unL (if n.op = 33 ∨ n.op = 34 then oneS n.name else if 3 ≤ sortS n.op then bndS V n else noneS) (n.kids.map (evS V))
def kidsR (K : Nat) (self : NodeA → Option Api_NamesA) (L : List NodeA) : (Int × Api_NamesA → Option Api_NamesA) → Int × Api_NamesA → Option Api_NamesA := fun again x =>
 if decide (x.1 < (L.length : Int)) then (idx L x.1).bind fun x50 => (self x50).bind fun r52 => (static_union K x.2 r52).bind fun r54 => again (IntKind.wrap .i64 (x.1 + (1 : Int)), r54) else some x.2
theorem kids_eq {K : Nat} (L : List NodeA) {self : NodeA → Option Api_NamesA} (f : NodeA → Api_NamesA) {s0 : Api_NamesA} (hs : ∀ x ∈ L, self x = some (f x)) (hg : ∀ x ∈ L, Good V (f x)) (h0 : Good V s0) (hK : KOk V K) (hL : L.length < K) (hb : L.length ≤ big) : iter K (kidsR K self L) (0, s0) = some (unL s0 (L.map f)) := by
 refine loop_eq L f hs hg h0 hK hL hb (fun g i s x hd hx => ?_) fun g s => ?_
 ·unfold kidsR; simp only [hd, if_true, idx_nat, hx, Option.bind_some]
 ·have hd : decide ((L.length : Int) < (L.length : Int)) = false := by simp
  unfold kidsR; simp only [hd, Bool.false_eq_true, if_false]
section
variable {K : Nat} {s1 s2 : NodeA → Option Api_NamesA} {m : ByteArray} {r : RatA} {ks : List NodeA}
theorem bb50 : static_BoundOf_body K s1 s2 (.mk 50 m r ks) = some (oneS m) := by kernel_rfl
theorem bb52 : static_BoundOf_body K s1 s2 (.mk 52 m r ks) = some (oneS m) := by kernel_rfl
theorem bb51 {s : ByteArray} (hc : catO m tick = some s) : static_BoundOf_body K s1 s2 (.mk 51 m r ks) = some (oneS s) := by
 unfold static_BoundOf_body
 simp only [NodeA.name_mk]
 generalize catO m ⟨#[39]⟩ = c at hc ⊢
 subst hc
 kernel_rfl
theorem bb55 {s : ByteArray} {u : Api_NamesA} (hc : catO m tick = some s) (hu : static_union K (oneS m) (oneS s) = some u) : static_BoundOf_body K s1 s2 (.mk 55 m r ks) = some u := by
 unfold static_BoundOf_body
 simp only [NodeA.name_mk]
 generalize catO m ⟨#[39]⟩ = c at hc ⊢
 subst hc
 generalize static_union K = U at hu ⊢
 exact ob _ (Eq.trans (b := (U (oneS m) (oneS s)).bind fun r => outM (some r)) (by kernel_rfl) (ob u hu rfl)) rfl
theorem bb54 {l : List NodeA} {u : Api_NamesA} (hc : cutL ks none (some (IntKind.wrap .i64 ((ks.length : Int) - 1))) = some l) (hu : iter K (kidsR K s1 l) (0, noneS) = some u) : static_BoundOf_body K s1 s2 (.mk 54 m r ks) = some u := by
 unfold static_BoundOf_body
 simp only [NodeA.name_mk, NodeA.kids_mk]
 generalize catO m ⟨#[39]⟩ = c
 generalize cutL ks none (some (IntKind.wrap .i64 ((ks.length : Int) - 1))) = l' at hc ⊢
 subst hc
 exact ob _ (Eq.trans (b := (iter K (kidsR K s1 l) (0, noneS)).bind fun r => outM (some r)) (by kernel_rfl) (ob u hu rfl)) rfl
theorem bbS {n : NodeA} : static_BoundOf_body K s1 s2 n = (fun so : Int => if so = 0 ∨ so = 1 ∨ so = 2 then (if so = 1 then some noneS else if so = 2 then s2 n else (iter K (kidsR K s1 n.kids) (0, noneS)).bind fun e => some e) else static_BoundOf_body K s1 s2 n) (sortS n.op) := by
 rcases sort_cases n.op with h | h | h | h | h
 all_goals
  simp only [h, Int.reduceEq, or_true, true_or, or_self, if_true, if_false]
 all_goals
  unfold static_BoundOf_body
  rw [tree_Sort_eq, h]
 ·kernel_rfl
 ·kernel_rfl
 ·cases s2 n <;> kernel_rfl
theorem bb53 : static_BoundOf_body K s1 s2 (.mk 53 m r ks) = some noneS := by kernel_rfl
theorem bb56 : static_BoundOf_body K s1 s2 (.mk 56 m r ks) = some allS := by kernel_rfl
theorem bb61 : static_BoundOf_body K s1 s2 (.mk 61 m r ks) = some allS := by kernel_rfl
theorem bb62 : static_BoundOf_body K s1 s2 (.mk 62 m r ks) = some allS := by kernel_rfl
theorem bb57 : static_BoundOf_body K s1 s2 (.mk 57 m r ks) = (iter K (kidsR K s1 ks) (0, noneS)).bind fun e => some e := by kernel_rfl
theorem bb58 : static_BoundOf_body K s1 s2 (.mk 58 m r ks) = (iter K (kidsR K s1 ks) (0, noneS)).bind fun e => some e := by kernel_rfl
theorem bb59 : static_BoundOf_body K s1 s2 (.mk 59 m r ks) = (iter K (kidsR K s1 ks) (0, noneS)).bind fun e => some e := by kernel_rfl
theorem bb60 : static_BoundOf_body K s1 s2 (.mk 60 m r ks) = (iter K (kidsR K s1 ks) (0, noneS)).bind fun e => some e := by kernel_rfl
end
theorem bound_at {n : NodeA} (hV : Uni V) (hf : Fine n) (hc : Cov V n) (hb : n.size ≤ big) (hkB : ∀ k ∈ n.kids, IsB V (2 * k.size + 1) k (bndS V k)) {t : Nat} (ht : 2 * n.size ≤ t + 1) (hE : sortS n.op = 2 → IsE V t n (evS V n)) : IsB V (t + 1) n (bndE V n) := by
 have hkl := n.kids_lt
 have hgo : namedS n.op = true → Good V (oneS n.name) ∧ Good V (oneS (n.name ++ tick)) ∧ n.name.size < 100 := good_name hV hf hc
 have hL : ∀ L : List NodeA, (∀ k ∈ L, k ∈ n.kids) → Good V (unL noneS (L.map (bndS V))) := fun L hL => good_unL (good_none hV _) fun x hx => by
  obtain ⟨k, hk, rfl⟩ := List.mem_map.1 hx
  exact (hkB k (hL k hk)).1
 have hsf : ∀ (K j : Nat) (L : List NodeA), KS V n K → t < j → (∀ k ∈ L, k ∈ n.kids) → ∀ x ∈ L, (grp_static_BoundOf K j).1 x = some (bndS V x) := fun K j L hK hj hLk x hx => (hkB x (hLk x hx)).2 K j (ks_kid hK (hLk x hx)) (by have := NodeA.size_lt (hLk x hx); omega)
 have hgood : Good V (bndE V n) := by
  unfold bndE
  by_cases h1 : sortS n.op = 1
  ·rw [if_pos h1]; exact good_none hV _
  rw [if_neg h1]
  by_cases h2 : sortS n.op = 2
  ·rw [if_pos h2]; exact (hE h2).1
  rw [if_neg h2]
  by_cases h3 : n.op = 50 ∨ n.op = 52
  ·rw [if_pos h3]; exact (hgo (named_b (by omega))).1
  rw [if_neg h3]
  by_cases h4 : n.op = 51
  ·rw [if_pos h4]; exact (hgo (named_b (by omega))).2.1
  rw [if_neg h4]
  by_cases h5 : n.op = 53
  ·rw [if_pos h5]; exact good_none hV _
  rw [if_neg h5]
  by_cases h6 : n.op = 55
  ·rw [if_pos h6]; exact good_union (hgo (named_b (by omega))).1 (hgo (named_b (by omega))).2.1
  rw [if_neg h6]
  split
  ·exact good_none hV _
  split
  ·exact hL _ fun k hk => List.mem_of_mem_take hk
  ·exact hL _ fun k hk => hk
 refine ⟨hgood, fun K j hK hj => ?_⟩
 obtain ⟨j, rfl⟩ : ∃ i, j = i + 1 := ⟨j - 1, by omega⟩
 show static_BoundOf_body K (grp_static_BoundOf K j).1 (grp_static_BoundOf K j).2 n = some (bndE V n)
 have hk0 : n.kids.length < K := by have := hK.2; omega
 have hl1 := kids_eq (V := V) n.kids (bndS V) (hsf K j _ hK (by omega) fun k hk => hk) (fun x hx => (hkB x hx).1) (good_none hV false) hK.1 hk0 (by omega)
 by_cases h34 : sortS n.op = 3 ∨ sortS n.op = 4
 ·have hs1 : sortS n.op ≠ 1 := by omega
  have hs2 : sortS n.op ≠ 2 := by omega
  have hc39 : ∀ h : namedS n.op = true, catO n.name tick = some (n.name ++ tick) := fun h => catO_tick (hgo h).2.2
  unfold bndE
  rw [if_neg hs1, if_neg hs2]
  have h0 := op_cases h34
  clear hE hs1 hs2 h34 hL hgood
  obtain ⟨op, m, r, ks⟩ := n
  simp only [NodeA.op_mk, NodeA.name_mk, NodeA.kids_mk] at *
  rcases h0 with h | h | h | h | h | h | h | h | h | h | h | h | h <;> subst h
  ·exact bb50
  ·exact bb51 (hc39 (named_b (by omega)))
  ·exact bb52
  ·exact bb53
  ·obtain ⟨hcut, hpos⟩ := flow_cut hf hb rfl
   simp only [NodeA.kids_mk] at hcut hpos
   exact bb54 hcut (kids_eq (V := V) (ks.take (ks.length - 1)) (bndS V) (hsf K j _ hK (by omega) fun k hk => List.mem_of_mem_take hk) (fun x hx => (hkB x (List.mem_of_mem_take hx)).1) (good_none hV false) hK.1 (by rw [List.length_take]; omega) (by rw [List.length_take]; omega))
  ·have hn : namedS 55 = true := named_b (by omega)
   exact bb55 (hc39 hn) (static_union_eq (hgo hn).1 (hgo hn).2.1 hK.1)
  ·exact bb56
  ·rw [bb57, hl1]; rfl
  ·rw [bb58, hl1]; rfl
  ·rw [bb59, hl1]; rfl
  ·rw [bb60, hl1]; rfl
  ·exact bb61
  ·exact bb62
 ·rcases sort_cases n.op with h | h | h | h | h
  ·have hno : ∀ k : Nat, 50 ≤ k → k ≤ 62 → n.op ≠ (k : Int) := fun k h1 h2 e => by
    have := sort34 (op := n.op) (by omega) (by omega)
    rw [h] at this; split at this <;> cases this
   have h50 := hno 50 (by omega) (by omega); have h51 := hno 51 (by omega) (by omega); have h52 := hno 52 (by omega) (by omega); have h53 := hno 53 (by omega) (by omega); have h54 := hno 54 (by omega) (by omega)
   have h55 := hno 55 (by omega) (by omega); have h56 := hno 56 (by omega) (by omega); have h61 := hno 61 (by omega) (by omega); have h62 := hno 62 (by omega) (by omega)
   unfold bndE
   rw [if_neg (show ¬ sortS n.op = 1 by omega), if_neg (show ¬ sortS n.op = 2 by omega), if_neg (show ¬ (n.op = 50 ∨ n.op = 52) by omega), if_neg (show ¬ n.op = 51 by omega), if_neg (show ¬ n.op = 53 by omega), if_neg (show ¬ n.op = 55 by omega), if_neg (show ¬ (n.op = 56 ∨ n.op = 61 ∨ n.op = 62) by omega), if_neg (show ¬ n.op = 54 by omega)]
   rw [bbS, h]; exact ob _ hl1 rfl
  ·unfold bndE
   rw [if_pos h, bbS, h]; rfl
  ·have he := (hE h).2 K j hK (by omega)
   unfold bndE
   rw [if_neg (show ¬ sortS n.op = 1 by omega), if_pos h, bbS, h]; exact he
  ·exact absurd (.inl h) h34
  ·exact absurd (.inr h) h34
/-! ### Everywhere -/
section
variable {K : Nat} {s1 s2 : NodeA → Option Api_NamesA} {m : ByteArray} {r : RatA} {ks : List NodeA}
theorem eb33 : static_everywhere_body K s1 s2 (.mk 33 m r ks) = (iter K (kidsR K s2 ks) (0, oneS m)).bind fun e => some e := by kernel_rfl
theorem eb34 : static_everywhere_body K s1 s2 (.mk 34 m r ks) = (iter K (kidsR K s2 ks) (0, oneS m)).bind fun e => some e := by kernel_rfl
theorem ebN {n : NodeA} (h33 : n.op ≠ 33) (h34 : n.op ≠ 34) (h : sortS n.op < 3) : static_everywhere_body K s1 s2 n = (iter K (kidsR K s2 n.kids) (0, noneS)).bind fun e => some e := by
 have b33 : (n.op == 33) = false := beq_eq_false_iff_ne.2 h33
 have b34 : (n.op == 34) = false := beq_eq_false_iff_ne.2 h34
 have b3 : decide ((3 : Int) ≤ sortS n.op) = false := decide_eq_false (by omega)
 unfold static_everywhere_body
 rw [b33, b34, tree_Sort_eq]
 generalize sortS n.op = so at b3
 refine Eq.trans (b := (((some false : Option Bool).bind fun v => if v then (static_one K n.name).bind fun r7 => some (r7.all, r7.list) else (some so).bind fun r9 => if decide ((3 : Int) ≤ r9) then (s1 n).bind fun r12 => some (r12.all, r12.list) else some (false, [])).bind fun x => (iter K (kidsR K s2 n.kids) (0, Api_NamesA.mk x.1 x.2)).bind fun e => some e)) (by kernel_rfl) ?_
 rw [Option.bind_some, if_neg (by simp), Option.bind_some, b3]; rfl
theorem ebP {n : NodeA} {B : Api_NamesA} (h33 : n.op ≠ 33) (h34 : n.op ≠ 34) (h : 3 ≤ sortS n.op) (hB : s1 n = some B) : static_everywhere_body K s1 s2 n = (iter K (kidsR K s2 n.kids) (0, B)).bind fun e => some e := by
 have b33 : (n.op == 33) = false := beq_eq_false_iff_ne.2 h33
 have b34 : (n.op == 34) = false := beq_eq_false_iff_ne.2 h34
 have b3 : decide ((3 : Int) ≤ sortS n.op) = true := decide_eq_true h
 unfold static_everywhere_body
 rw [b33, b34, tree_Sort_eq]
 generalize sortS n.op = so at b3
 refine Eq.trans (b := (((some false : Option Bool).bind fun v => if v then (static_one K n.name).bind fun r7 => some (r7.all, r7.list) else (some so).bind fun r9 => if decide ((3 : Int) ≤ r9) then (s1 n).bind fun r12 => some (r12.all, r12.list) else some (false, [])).bind fun x => (iter K (kidsR K s2 n.kids) (0, Api_NamesA.mk x.1 x.2)).bind fun e => some e)) (by kernel_rfl) ?_
 rw [Option.bind_some, if_neg (by simp), Option.bind_some, b3, if_pos rfl, hB]; rfl
end
theorem ev_at {n : NodeA} (hV : Uni V) (hf : Fine n) (hc : Cov V n) (hb : n.size ≤ big) (hkE : ∀ k ∈ n.kids, IsE V (2 * k.size + 1) k (evS V k)) {t : Nat} (ht : 2 * n.size ≤ t + 1) (hB : 3 ≤ sortS n.op → IsB V t n (bndS V n)) : IsE V (t + 1) n (evE V n) := by
 have hkl := n.kids_lt
 have hhead : Good V (if n.op = 33 ∨ n.op = 34 then oneS n.name else if 3 ≤ sortS n.op then bndS V n else noneS) := by
  split
  ·exact (good_name hV hf hc (named_b (by omega))).1
  ·split
   ·next h => exact (hB h).1
   ·exact good_none hV _
 refine ⟨good_unL hhead fun x hx => by obtain ⟨k, hk, rfl⟩ := List.mem_map.1 hx; exact (hkE k hk).1, fun K j hK hj => ?_⟩
 obtain ⟨j, rfl⟩ : ∃ i, j = i + 1 := ⟨j - 1, by omega⟩
 show static_everywhere_body K (grp_static_BoundOf K j).1 (grp_static_BoundOf K j).2 n = some (evE V n)
 have hk0 : n.kids.length < K := by have := hK.2; omega
 have hl : ∀ s0, Good V s0 → iter K (kidsR K (grp_static_BoundOf K j).2 n.kids) (0, s0) = some (unL s0 (n.kids.map (evS V))) := fun s0 h0 => kids_eq (V := V) n.kids (evS V) (fun x hx => (hkE x hx).2 K j (ks_kid hK hx) (by have := NodeA.size_lt hx; omega)) (fun x hx => (hkE x hx).1) h0 hK.1 hk0 (by omega)
 unfold evE at *
 by_cases h : n.op = 33 ∨ n.op = 34
 ·rw [if_pos h] at hhead ⊢
  have hl1 := hl _ hhead
  clear hB hhead hl
  obtain ⟨op, m, r, ks⟩ := n
  simp only [NodeA.op_mk, NodeA.name_mk, NodeA.kids_mk] at *
  rcases h with h | h <;> subst h
  ·rw [eb33, hl1]; rfl
  ·rw [eb34, hl1]; rfl
 ·rw [if_neg h] at hhead ⊢
  by_cases h3 : 3 ≤ sortS n.op
  ·rw [if_pos h3] at hhead ⊢
   rw [ebP (fun e => h (.inl e)) (fun e => h (.inr e)) h3 ((hB h3).2 K j hK (by omega)), hl _ hhead]; rfl
  ·rw [if_neg h3] at hhead ⊢
   rw [ebN (fun e => h (.inl e)) (fun e => h (.inr e)) (by omega), hl _ hhead]; rfl
theorem bound_ev (hV : Uni V) : ∀ n : NodeA, Fine n → Cov V n → n.size ≤ big → (IsB V (2 * n.size + 1) n (bndS V n) ∧ bndS V n = bndE V n) ∧ IsE V (2 * n.size + 1) n (evS V n) ∧ evS V n = evE V n := by
 refine NodeA.ind fun n ih => ?_
 intro hf hc hb
 have hk : ∀ k ∈ n.kids, (IsB V (2 * k.size + 1) k (bndS V k) ∧ bndS V k = bndE V k) ∧ IsE V (2 * k.size + 1) k (evS V k) ∧ evS V k = evE V k := fun k hk => ih k hk (fine_kid hf hk) (cov_kid hc hk) (by have := NodeA.size_lt hk; omega)
 have hp := n.size_pos
 by_cases h2 : sortS n.op = 2
 ·have he := ev_at (t := 2 * n.size - 1) hV hf hc hb (fun k h => (hk k h).2.1) (by omega) (fun h => by omega)
  have he' := ev_of he (by omega)
  have hbn := bound_at (t := 2 * n.size) hV hf hc hb (fun k h => (hk k h).1.1) (by omega) (fun _ => ⟨he'.1.1, fun K j hK hj => by rw [he'.2]; exact he.2 K j hK (by omega)⟩)
  exact ⟨bnd_of hbn (by omega), he'⟩
 ·have hbn := bound_at (t := 2 * n.size - 1) hV hf hc hb (fun k h => (hk k h).1.1) (by omega) (fun h => absurd h h2)
  have hb' := bnd_of hbn (by omega)
  have he := ev_at (t := 2 * n.size) hV hf hc hb (fun k h => (hk k h).2.1) (by omega) (fun _ => ⟨hb'.1.1, fun K j hK hj => by rw [hb'.2]; exact hbn.2 K j hK (by omega)⟩)
  exact ⟨hb', ev_of he (by omega)⟩
/-! ### Must-bound variables -/
section
variable {K : Nat} {s : NodeA → Option Api_NamesA} {m : ByteArray} {r : RatA} {ks : List NodeA}
end
end
end Go.Proofs.YtfnfjjgphhoigaaGreat
namespace Go.Proofs.YtfnfjjgphhoigaaGreat
open Go Go.Iso Go.Proofs
set_option linter.unusedSimpArgs false
set_option linter.unusedVariables false
set_option maxRecDepth 100000
theorem eqB {a b : ByteArray} : (a.toList == b.toList) = true ↔ a = b := by
 rw [beq_iff_eq]; exact ⟨fun h => toList_inj h, fun h => by rw [h]⟩
def occB (o : Int) : NodeA → Bool
 | .mk op _ _ ks => op == o || ks.attach.any fun ⟨k, _⟩ => occB o k
termination_by n => SizeOf.sizeOf n
decreasing_by exact NodeA.size_kid (by assumption)
theorem occB_eq {o : Int} (n : NodeA) : occB o n = (n.op == o || n.kids.any (occB o)) := by
 cases n with | mk op m r ks => rw [occB]; simp [NodeA.op, NodeA.kids]
theorem scan_any {α : Type} {l : List α} {q : α → Bool} {K : Nat} (hl : l.length < K) (hb : l.length ≤ big) {f : (Int → Option (Out Unit Bool)) → Int → Option (Out Unit Bool)}
  (h1 : ∀ g (i : Nat) x, l[i]? = some x → f g i = if q x then some (.out true) else g (IntKind.wrap .i64 ((i : Int) + 1))) (h2 : ∀ g (i : Nat), l.length ≤ i → f g i = some (.go ())) : iter K f 0 = some (if l.any q then .out true else .go ()) := by
 unfold big at hb
 rw [scan l (fun x => !q x) true (by omega) (fun g i x hx => by rw [h1 g i x hx]; cases q x <;> rfl) h2 hl]
 have : l.all (fun x => !q x) = !l.any q := by rw [Bool.eq_iff_iff]; simp
 rw [this]
 cases l.any q <;> rfl
theorem lt_tn {i n : Nat} (h : i < n) : decide ((i : Int) < (n : Int)) = true := decide_eq_true (by omega)
theorem lt_fn {i n : Nat} (h : n ≤ i) : decide ((i : Int) < (n : Int)) = false := decide_eq_false (by omega)
theorem occurs_iter {K : Nat} {o : Int} : ∀ (n : NodeA) (j : Nat), n.size ≤ j → n.size ≤ K → n.size ≤ big → iter j (fun self q => r10_Occurs_body K self q.1 q.2) (n, o) = some (occB o n) := by
 refine NodeA.ind fun n ih => ?_
 intro j hj hK hb
 have hp := n.size_pos
 have hkl := n.kids_lt
 obtain ⟨j, rfl⟩ : ∃ i, j = i + 1 := ⟨j - 1, by omega⟩
 rw [iter_succ, occB_eq]
 have ih' : ∀ k ∈ n.kids, iter j (fun self q => r10_Occurs_body K self q.1 q.2) (k, o) = some (occB o k) := fun k hk => ih k hk j (by have := NodeA.size_lt hk; omega) (by have := NodeA.size_lt hk; omega) (by have := NodeA.size_lt hk; omega)
 generalize iter j (fun self q => r10_Occurs_body K self q.1 q.2) = S at ih' ⊢
 unfold r10_Occurs_body
 simp only
 cases h : n.op == o with
 | true => rfl
 | false =>
  simp only [Bool.false_eq_true, if_false, Bool.false_or]
  refine ob _ (scan_any (l := n.kids) (q := occB o) (by omega) (by omega) (fun g i x hx => ?_) fun g i hi => ?_) ?_
  ·obtain ⟨hlt, rfl⟩ := List.getElem?_eq_some_iff.1 hx
   simp only [lt_tn hlt, if_true, idx_nat, hx, Option.bind_some, ih' _ (List.getElem_mem hlt), outM_eq]
  ·simp only [lt_fn hi, Bool.false_eq_true, if_false]
  ·cases n.kids.any (occB o) <;> rfl
theorem uses_iter {K : Nat} {l : List Int} (hl : l.length < K) (hlb : l.length ≤ big) : ∀ (n : NodeA) (j : Nat), n.size ≤ j → n.size ≤ K → n.size ≤ big → iter j (fun self q => static_Uses_body K self q.1 q.2) (n, l) = some (l.any fun o => occB o n) := by
 refine NodeA.ind fun n ih => ?_
 intro j hj hK hb
 have hp := n.size_pos
 have hkl := n.kids_lt
 obtain ⟨j, rfl⟩ : ∃ i, j = i + 1 := ⟨j - 1, by omega⟩
 rw [iter_succ]
 have ih' : ∀ k ∈ n.kids, iter j (fun self q => static_Uses_body K self q.1 q.2) (k, l) = some (l.any fun o => occB o k) := fun k hk => ih k hk j (by have := NodeA.size_lt hk; omega) (by have := NodeA.size_lt hk; omega) (by have := NodeA.size_lt hk; omega)
 have hsplit : (l.any fun o => occB o n) = ((l.any fun o => n.op == o) || n.kids.any fun k => l.any fun o => occB o k) := by
  rw [Bool.eq_iff_iff]
  simp only [Bool.or_eq_true, List.any_eq_true]
  constructor
  ·rintro ⟨o, ho, h⟩
   rw [occB_eq, Bool.or_eq_true, List.any_eq_true] at h
   rcases h with h | ⟨k, hk, h⟩
   ·exact .inl ⟨o, ho, h⟩
   ·exact .inr ⟨k, hk, o, ho, h⟩
  ·rintro (⟨o, ho, h⟩ | ⟨k, hk, o, ho, h⟩)
   ·exact ⟨o, ho, by rw [occB_eq, h]; rfl⟩
   ·exact ⟨o, ho, by rw [occB_eq, Bool.or_eq_true, List.any_eq_true]; exact .inr ⟨k, hk, h⟩⟩
 rw [hsplit]
 generalize iter j (fun self q => static_Uses_body K self q.1 q.2) = S at ih' ⊢
 unfold static_Uses_body
 simp only
 refine ob _ (scan_any (l := l) (q := fun o => n.op == o) hl hlb (fun g i x hx => ?_) fun g i hi => ?_) ?_
 ·obtain ⟨hlt, rfl⟩ := List.getElem?_eq_some_iff.1 hx
  simp only [lt_tn hlt, if_true, idx_nat, hx, Option.bind_some, outM_eq]
 ·simp only [lt_fn hi, Bool.false_eq_true, if_false]
 ·cases h : l.any fun o => n.op == o with
  | true => rfl
  | false =>
   simp only [Bool.false_eq_true, if_false, Out.fin_go, Bool.false_or]
   refine ob _ (scan_any (l := n.kids) (q := fun k => l.any fun o => occB o k) (by omega) (by omega) (fun g i x hx => ?_) fun g i hi => ?_) ?_
   ·obtain ⟨hlt, rfl⟩ := List.getElem?_eq_some_iff.1 hx
    simp only [lt_tn hlt, if_true, idx_nat, hx, Option.bind_some, ih' _ (List.getElem_mem hlt), outM_eq]
   ·simp only [lt_fn hi, Bool.false_eq_true, if_false]
   ·cases n.kids.any fun k => l.any fun o => occB o k <;> rfl
def Few (r : RatA) : Prop := r.num.length ≤ 100 ∧ r.den.length ≤ 100
theorem natS_few {r : RatA} (h : natS r = true) : Few r := by
 unfold natS at h
 simp only [Bool.and_eq_true, decide_eq_true_eq] at h
 have hd : r.den = [1] := eq_of_beq h.1.1.2
 exact ⟨by omega, by rw [hd]; simp⟩
theorem fine_few {n : NodeA} (h : Fine n) : Few n.num := by
 obtain ⟨d, fd, fl, h⟩ := h
 rw [okS_eq] at h
 simp only [Bool.and_eq_true] at h
 have h := h.1
 unfold numC at h
 split at h
 ·exact natS_few h
 ·simp only [Bool.not_eq_true', Bool.or_eq_false_iff, decide_eq_false_iff_not] at h
  exact ⟨by omega, by omega⟩
theorem app_few {l : List Int} (h : l.length ≤ 100) : appO 4 [] l = some l := by
 unfold appO; rw [if_pos (by simp; omega)]; rfl
theorem app_few' {l : List Int} (h : l.length ≤ 100) : ((if (decide ((0 : Int) < (l.length : Int))) then (appO 4 [] l).bind fun l4 => some l4 else some []) : Option (List Int)) = some l := by
 cases l with
 | nil => rfl
 | cons a l => rw [app_few h]; simp
theorem copy_leaf {K : Nat} {op : Int} {m : ByteArray} {r : RatA} (h : Few r) (hK : 0 < K) : tree_Copy K (.mk op m r []) = some (.mk op m r []) := by
 obtain ⟨k, rfl⟩ : ∃ k, K = k + 1 := ⟨K - 1, by omega⟩
 unfold tree_Copy
 rw [iter_succ]
 generalize iter k (fun self q => tree_Copy_body (k + 1) self q) = S
 unfold tree_Copy_body
 simp only [NodeA.num_mk, NodeA.kids_mk, NodeA.op_mk, NodeA.name_mk]
 refine ob _ (app_few' h.1) (ob _ (app_few' h.2) (ob _ (iter_succ ..) ?_))
 rfl
theorem app_node {l : List NodeA} {x : NodeA} (h : l.length ≤ big) : appO 104 l [x] = some (l ++ [x]) := by
 unfold appO big at *
 rw [if_pos (by simp only [List.length_singleton]; omega)]
theorem words_refl {K : Nat} {l : List Int} (hl : l.length ≤ 100) (hK : 100 < K) : r08_words K l l = some 0 := by
 unfold r08_words
 have e : ((l.length : Int) != (l.length : Int)) = false := by simp
 rw [e]
 simp only [Bool.false_eq_true, if_false]
 refine ob (Out.go () : Out Unit Int) (foldG l.length (fun i => (l.length : Int) - 1 - (i : Int)) (Out.go () : Out Unit Int) (fun g i hi => ?_) (fun g => ?_) (by omega) ?_) rfl
 ·have hd : decide ((0 : Int) ≤ (l.length : Int) - 1 - (i : Int)) = true := decide_eq_true (by omega)
  have ez : (l.length : Int) - 1 - (i : Int) = ((l.length - 1 - i : Nat) : Int) := by omega
  have hx : l[l.length - 1 - i]? = some l[l.length - 1 - i] := List.getElem?_eq_getElem (by omega)
  simp only [hd, if_true, ez, idx_nat, hx, Option.bind_some, bne_self_eq_false, Bool.false_eq_true, if_false]
  rw [w64 (by omega) (by omega)]
  show g _ = g ((l.length : Int) - 1 - ((i + 1 : Nat) : Int))
  congr 1
  omega
 ·have hd : decide ((0 : Int) ≤ (l.length : Int) - 1 - (l.length : Int)) = false := decide_eq_false (by omega)
  simp only [hd, Bool.false_eq_true, if_false]
 ·rw [w64 (by omega) (by omega)]; simp
def FewN : NodeA → Prop
 | .mk _ _ r ks => Few r ∧ ∀ k (h : k ∈ ks), FewN k
termination_by n => SizeOf.sizeOf n
decreasing_by exact NodeA.size_kid h
theorem FewN_mk {o : Int} {m : ByteArray} {r : RatA} {ks : List NodeA} : FewN (.mk o m r ks) = (Few r ∧ ∀ k ∈ ks, FewN k) := by rw [FewN]
theorem FewN_num {n : NodeA} (h : FewN n) : Few n.num := by cases n; rw [FewN_mk] at h; exact h.1
theorem FewN_kid {n k : NodeA} (h : FewN n) (hk : k ∈ n.kids) : FewN k := by cases n; rw [FewN_mk] at h; exact h.2 k hk
theorem fine_fewN : ∀ n : NodeA, Fine n → FewN n := NodeA.ind fun n ih => by
 intro h
 have h1 := fine_few h
 have h2 : ∀ k ∈ n.kids, FewN k := fun k hk => ih k hk (fine_kid h hk)
 cases n with | mk o m r ks => rw [FewN_mk]; exact ⟨h1, h2⟩
theorem compare_refl {K : Nat} (hK2 : 100 < K) : ∀ (n : NodeA) (j : Nat), FewN n → n.size ≤ j → n.size ≤ K → n.size ≤ big → iter j (fun self q => r08_Compare_body K self q.1 q.2) (n, n) = some 0 := by
 refine NodeA.ind fun n ih => ?_
 intro j hf hj hK hb
 have hp := n.size_pos
 have hkl := n.kids_lt
 obtain ⟨j, rfl⟩ : ∃ i, j = i + 1 := ⟨j - 1, by omega⟩
 rw [iter_succ]
 have ih' : ∀ k ∈ n.kids, iter j (fun self q => r08_Compare_body K self q.1 q.2) (k, k) = some 0 := fun k hk => ih k hk j (FewN_kid hf hk) (by have := NodeA.size_lt hk; omega) (by have := NodeA.size_lt hk; omega) (by have := NodeA.size_lt hk; omega)
 generalize iter j (fun self q => r08_Compare_body K self q.1 q.2) = S at ih' ⊢
 unfold r08_Compare_body
 simp only
 have hless : ∀ z : Int, r08_less K z z = some 0 := fun z => by
  unfold r08_less
  have e : decide (z < z) = false := by simp
  rw [e]; rfl
 have e1 : (!(n.name.toList == n.name.toList)) = false := by simp
 have e2 : (!(n.num.neg == n.num.neg)) = false := by simp
 simp only [hless, Option.bind_some, bne_self_eq_false, Bool.false_eq_true, if_false, e1, e2, words_refl (FewN_num hf).1 hK2, words_refl (FewN_num hf).2 hK2]
 unfold big at hb
 refine ob (Out.go () : Out Unit Int) (foldG n.kids.length (fun i => (i : Int)) (Out.go () : Out Unit Int) (fun g i hi => ?_) (fun g => ?_) (by omega) rfl) rfl
 ·have hx : n.kids[i]? = some n.kids[i] := List.getElem?_eq_getElem hi
  simp only [lt_tn hi, if_true, idx_nat, hx, Option.bind_some, ih' _ (List.getElem_mem hi), bne_self_eq_false, Bool.false_eq_true, if_false]
  rw [w64s (by omega)]
 ·simp only [lt_fn (Nat.le_refl n.kids.length), Bool.false_eq_true, if_false]
theorem equal_refl {K : Nat} {n : NodeA} (hK2 : 100 < K) (hf : FewN n) (hK : n.size ≤ K) (hb : n.size ≤ big) : r08_Equal K n n = some true := by
 unfold r08_Equal r08_Compare
 rw [compare_refl hK2 n K hf hK hK hb]; rfl
abbrev zN : NodeA := NodeA.mk 0 ⟨#[]⟩ (RatA.mk false [] []) []
theorem tsize_iter {K : Nat} : ∀ (k : Nat) (n : NodeA), n.size ≤ k → n.size ≤ K → n.size ≤ big → iter k (fun self q => tree_Size_body K self q) n = some (n.size : Int) := by
 intro k
 induction k with
 | zero => intro n h; have := n.size_pos; omega
 | succ k ih =>
  intro n h hK hb
  rw [iter_succ]
  generalize iter k (fun self q => tree_Size_body K self q) = S at ih ⊢
  unfold tree_Size_body
  have hl := n.kids_lt
  have hsz : n.size = 1 + (n.kids.map NodeA.size).sum := by cases n with | mk o m r ks => rw [NodeA.size_mk]; rfl
  have hb' : n.size ≤ 1099511627776 := hb
  refine ob _ (foldG n.kids.length (fun i => (((1 + ((n.kids.take i).map NodeA.size).sum : Nat) : Int), (i : Int))) (n.size : Int) (fun g i hi => ?_) (fun g => ?_) (by omega) rfl) rfl
  ·have hx : n.kids[i]? = some n.kids[i] := List.getElem?_eq_getElem hi
   have hm := List.getElem_mem hi
   have hs := NodeA.size_lt hm
   have h1 := sum_take (f := NodeA.size) hx
   have h2 := sum_take_le (l := n.kids) (f := NodeA.size) (i := i + 1)
   simp only [lt_t hx, if_true, idx_nat, hx, Option.bind_some, ih _ (show n.kids[i].size ≤ k by omega) (by omega) (by omega)]
   rw [w64s (by omega), w64 (by omega) (by omega), h1]
   congr 2
   omega
  ·simp only [lt_f, Bool.false_eq_true, if_false, List.take_length, hsz]
theorem tree_Size_eq {K : Nat} {n : NodeA} (hK : n.size ≤ K) (hb : n.size ≤ big) : tree_Size K n = some (n.size : Int) := tsize_iter K n hK hK hb
end Go.Proofs.YtfnfjjgphhoigaaGreat
namespace Go.Proofs.YtfnfjjgphhoigaaGreat
open Go Go.Iso Go.Proofs
set_option linter.unusedSimpArgs false
set_option linter.unusedVariables false
set_option maxRecDepth 100000
/-! ### Comparing -/
theorem tree_less_ne {K : Nat} {b : Bool} : ∃ z, tree_less K b = some z ∧ z ≠ 0 := by
 unfold tree_less; cases b
 ·exact ⟨1, rfl, by omega⟩
 ·exact ⟨-1, rfl, by omega⟩
def WPost (l m : List Int) (o : Out Unit Int) : Prop := (o = .go () ∧ l = m) ∨ ∃ z, o = .out z ∧ z ≠ 0 ∧ l ≠ m
theorem words_loop {l m : List Int} {K : Nat} (hlen : l.length = m.length) (hl : l.length ≤ 100) (hK : 100 < K) {f : (Int → Option (Out Unit Int)) → Int → Option (Out Unit Int)}
  (h1 : ∀ g (i : Nat) x y, l[i]? = some x → m[i]? = some y → if x = y then f g (i : Int) = g (IntKind.wrap .i64 ((i : Int) - 1)) else ∃ z, f g (i : Int) = some (.out z) ∧ z ≠ 0)
  (h2 : ∀ g, f g (-1) = some (.go ())) : ∃ o, iter K f (IntKind.wrap .i64 ((l.length : Int) - 1)) = some o ∧ WPost l m o := by
 rw [w64 (by omega) (by omega)]
 have := loopE (J := fun i (s : Int) => s = (l.length : Int) - 1 - (i : Int) ∧ l.drop (l.length - i) = m.drop (l.length - i)) (Post := fun _ _ o => WPost l m o) (f := f) l.length
  (fun g i s hi hj hg => by
   obtain ⟨rfl, hd⟩ := hj
   have ez : (l.length : Int) - 1 - (i : Int) = ((l.length - 1 - i : Nat) : Int) := by omega
   have hx : l[l.length - 1 - i]? = some l[l.length - 1 - i] := List.getElem?_eq_getElem (by omega)
   have hy : m[l.length - 1 - i]? = some m[l.length - 1 - i] := List.getElem?_eq_getElem (by omega)
   have h := h1 g _ _ _ hx hy
   rw [ez]
   split at h
   ·next he =>
    rw [h]
    refine hg _ ⟨?_, ?_⟩
    ·rw [w64 (by omega) (by omega)]; omega
    ·have e : l.length - (i + 1) + 1 = l.length - i := by omega
     rw [List.drop_eq_getElem_cons (show l.length - (i + 1) < l.length by omega), List.drop_eq_getElem_cons (show l.length - (i + 1) < m.length by omega), e, hd]
     have e2 : l.length - (i + 1) = l.length - 1 - i := by omega
     simp only [e2, he]
   ·next he =>
    obtain ⟨z, hz, hn⟩ := h
    exact ⟨_, hz, .inr ⟨z, rfl, hn, fun e => he (by subst e; rfl)⟩⟩)
  (fun g s hj => by
   obtain ⟨rfl, hd⟩ := hj
   have e : (l.length : Int) - 1 - (l.length : Int) = -1 := by omega
   rw [e, h2]
   refine ⟨_, rfl, .inl ⟨rfl, ?_⟩⟩
   simpa using hd) (K := K) 0 ((l.length : Int) - 1) ⟨by omega, by simp [hlen]⟩ (by omega) (by omega)
 exact this
theorem words_len {l m : List Int} : ((l.length : Int) != (m.length : Int)) = true → l ≠ m := fun h e => by subst e; simp at h
theorem tree_words_ex {K : Nat} {l m : List Int} (hf : l.length ≤ 100 ∨ m.length ≤ 100) (hK : 100 < K) : ∃ z, tree_words K l m = some z ∧ (z = 0 ↔ l = m) := by
 unfold tree_words
 cases hl : ((l.length : Int) != (m.length : Int)) with
 | true =>
  obtain ⟨z, hz, hn⟩ := tree_less_ne (K := K) (b := decide ((l.length : Int) < (m.length : Int)))
  rw [hz]
  exact ⟨z, rfl, fun h => absurd h hn, fun h => absurd h (words_len hl)⟩
 | false =>
  have hlen : l.length = m.length := by simp at hl; omega
  simp only [Bool.false_eq_true, if_false]
  obtain ⟨o, ho, hp⟩ := words_loop (l := l) (m := m) (K := K) hlen (by omega) hK (f := fun again i4_0 =>
   if (decide ((0 : Int) ≤ i4_0)) then
    (idx l i4_0).bind fun x9 =>
    (idx m i4_0).bind fun x11 =>
    if (x9 != x11) then
     (tree_less K (decide (x9 < x11))).bind fun r14 =>
     outM (
      some r14)
    else
     again (IntKind.wrap .i64 (i4_0 - (1 : Int)))
   else
    some (.go ())) (fun g i x y hx hy => by
    have hd : decide ((0 : Int) ≤ (i : Int)) = true := decide_eq_true (by omega)
    simp only [hd, if_true, idx_nat, hx, hy, Option.bind_some]
    split
    ·next he => subst he; simp
    ·next he =>
     have e : (x != y) = true := by simpa using he
     obtain ⟨z, hz, hn⟩ := tree_less_ne (K := K) (b := decide (x < y))
     rw [e, hz]
     exact ⟨z, rfl, hn⟩) (fun g => rfl)
  rw [ho]
  rcases hp with ⟨rfl, he⟩ | ⟨z, rfl, hn, he⟩
  ·exact ⟨0, rfl, fun _ => he, fun _ => rfl⟩
  ·exact ⟨z, rfl, fun h => absurd h hn, fun h => absurd h he⟩
theorem r08_words_ex {K : Nat} {l m : List Int} (hf : l.length ≤ 100 ∨ m.length ≤ 100) (hK : 100 < K) : ∃ z, r08_words K l m = some z ∧ (z = 0 ↔ l = m) := by
 unfold r08_words
 cases hl : ((l.length : Int) != (m.length : Int)) with
 | true =>
  simp only [if_true]
  by_cases h : (l.length : Int) < (m.length : Int)
  ·rw [decide_eq_true h]; exact ⟨-1, rfl, fun h => by omega, fun h => absurd h (words_len hl)⟩
  ·rw [decide_eq_false h]; exact ⟨1, rfl, fun h => by omega, fun h => absurd h (words_len hl)⟩
 | false =>
  have hlen : l.length = m.length := by simp at hl; omega
  simp only [Bool.false_eq_true, if_false]
  obtain ⟨o, ho, hp⟩ := words_loop (l := l) (m := m) (K := K) hlen (by omega) hK (f := fun again i3_0 =>
   if (decide ((0 : Int) ≤ i3_0)) then
    (idx l i3_0).bind fun x8 =>
    (idx m i3_0).bind fun x10 =>
    if (x8 != x10) then
     if (decide (x8 < x10)) then
      outM (
       some (-1 : Int))
     else
      outM (
       some (1 : Int))
    else
     again (IntKind.wrap .i64 (i3_0 - (1 : Int)))
   else
    some (.go ())) (fun g i x y hx hy => by
    have hd : decide ((0 : Int) ≤ (i : Int)) = true := decide_eq_true (by omega)
    simp only [hd, if_true, idx_nat, hx, hy, Option.bind_some]
    split
    ·next he => subst he; simp
    ·next he =>
     have e : (x != y) = true := by simpa using he
     rw [e]
     by_cases h : x < y
     ·rw [decide_eq_true h]; exact ⟨-1, rfl, by omega⟩
     ·rw [decide_eq_false h]; exact ⟨1, rfl, by omega⟩) (fun g => rfl)
  rw [ho]
  rcases hp with ⟨rfl, he⟩ | ⟨z, rfl, hn, he⟩
  ·exact ⟨0, rfl, fun _ => he, fun _ => rfl⟩
  ·exact ⟨z, rfl, fun h => absurd h hn, fun h => absurd h he⟩
theorem node_ext {a b : NodeA} (h1 : a.op = b.op) (h2 : a.name = b.name) (h3 : a.num.neg = b.num.neg) (h4 : a.num.num = b.num.num) (h5 : a.num.den = b.num.den) (h6 : a.kids = b.kids) : a = b := by
 obtain ⟨o, m, ⟨x, y, z⟩, ks⟩ := a
 obtain ⟨o', m', ⟨x', y', z'⟩, ks'⟩ := b
 simp only [NodeA.op_mk, NodeA.name_mk, NodeA.num_mk, NodeA.kids_mk] at h1 h2 h3 h4 h5 h6
 subst h1 h2 h3 h4 h5 h6; rfl
def KPost (ks ls : List NodeA) (o : Out Unit Int) : Prop := (o = .go () ∧ ks = ls) ∨ ∃ z, o = .out z ∧ z ≠ 0 ∧ ks ≠ ls
theorem kids_loop {ks ls : List NodeA} {K : Nat} (hlen : ks.length = ls.length) (hl : ks.length < K) (hb : ks.length ≤ big) {S : NodeA × NodeA → Option Int} (hS : ∀ (i : Nat) x y, ks[i]? = some x → ls[i]? = some y → ∃ z, S (x, y) = some z ∧ (z = 0 ↔ x = y)) :
  ∃ o, iter K (fun (again : Int → Option (Out Unit Int)) i19_0 =>
   if (decide (i19_0 < (ks.length : Int))) then
    (idx ks i19_0).bind fun x24 =>
    (idx ls i19_0).bind fun x26 =>
    (S (x24, x26)).bind fun r28 =>
    if (r28 != (0 : Int)) then
     outM (
      some r28)
    else
     again (IntKind.wrap .i64 (i19_0 + (1 : Int)))
   else
    some (.go ())) (0 : Int) = some o ∧ KPost ks ls o := by
 refine loopE (J := fun i (s : Int) => s = (i : Int) ∧ ks.take i = ls.take i) (Post := fun _ _ o => KPost ks ls o) ks.length
  (fun g i s hi hj hg => ?_) (fun g s hj => ?_) 0 0 ⟨rfl, by simp⟩ (by omega) (by omega)
 ·obtain ⟨rfl, ht⟩ := hj
  have hx : ks[i]? = some ks[i] := List.getElem?_eq_getElem hi
  have hy : ls[i]? = some (ls[i]'(by omega)) := List.getElem?_eq_getElem (by omega)
  obtain ⟨z, hz, he⟩ := hS i _ _ hx hy
  simp only [lt_tn hi, if_true, idx_nat, hx, hy, Option.bind_some, hz]
  by_cases h0 : z = 0
  ·subst h0
   have e := he.1 rfl
   simp only [bne_self_eq_false, Bool.false_eq_true, if_false]
   unfold big at hb
   rw [w64s (by omega)]
   exact hg _ ⟨rfl, by rw [List.take_add_one, List.take_add_one, ht, hx, hy, e]⟩
  ·have e : (z != 0) = true := by simpa using h0
   rw [e]
   refine ⟨_, rfl, .inr ⟨z, rfl, h0, fun e => h0 (he.2 ?_)⟩⟩
   subst e; rfl
 ·obtain ⟨rfl, ht⟩ := hj
  simp only [lt_fn (Nat.le_refl ks.length), Bool.false_eq_true, if_false]
  exact ⟨_, rfl, .inl ⟨rfl, by rw [List.take_length, hlen, List.take_length] at ht; exact ht⟩⟩
theorem num_few {a b : NodeA} (h : FewN a ∨ FewN b) : (a.num.num.length ≤ 100 ∨ b.num.num.length ≤ 100) ∧ (a.num.den.length ≤ 100 ∨ b.num.den.length ≤ 100) := by
 rcases h with h | h
 ·exact ⟨.inl (FewN_num h).1, .inl (FewN_num h).2⟩
 ·exact ⟨.inr (FewN_num h).1, .inr (FewN_num h).2⟩
theorem tree_cmp_ex {K : Nat} (hK2 : 100 < K) : ∀ (a b : NodeA) (j : Nat), (FewN a ∨ FewN b) → a.size ≤ j → a.size ≤ K → a.size ≤ big → ∃ z, iter j (fun self q => tree_Compare_body K self q.1 q.2) (a, b) = some z ∧ (z = 0 ↔ a = b) := by
 refine NodeA.ind fun a ih => ?_
 intro b j hf hj hK hb
 have hp := a.size_pos
 have hkl := a.kids_lt
 obtain ⟨j, rfl⟩ : ∃ i, j = i + 1 := ⟨j - 1, by omega⟩
 rw [iter_succ]
 have ih' : ∀ (i : Nat) x y, a.kids[i]? = some x → b.kids[i]? = some y → ∃ z, iter j (fun self q => tree_Compare_body K self q.1 q.2) (x, y) = some z ∧ (z = 0 ↔ x = y) := fun i x y hx hy => by
  have h1 := List.mem_of_getElem? hx
  have h2 := List.mem_of_getElem? hy
  have := NodeA.size_lt h1
  exact ih x h1 y j (hf.imp (fun h => FewN_kid h h1) fun h => FewN_kid h h2) (by omega) (by omega) (by omega)
 generalize iter j (fun self q => tree_Compare_body K self q.1 q.2) = S at ih' ⊢
 show ∃ z, tree_Compare_body K S a b = some z ∧ _
 unfold tree_Compare_body
 cases h1 : (a.op != b.op) with
 | true =>
  obtain ⟨z, hz, hn⟩ := tree_less_ne (K := K) (b := decide (a.op < b.op))
  rw [hz]; exact ⟨z, rfl, fun h => absurd h hn, fun h => by subst h; simp at h1⟩
 | false =>
  simp only [Bool.false_eq_true, if_false]
  cases h2 : (!(a.name.toList == b.name.toList)) with
  | true =>
   obtain ⟨z, hz, hn⟩ := tree_less_ne (K := K) (b := Op.bytesLess a.name.toList b.name.toList)
   simp only [if_true, hz]; exact ⟨z, rfl, fun h => absurd h hn, fun h => by subst h; simp at h2⟩
  | false =>
   simp only [Bool.false_eq_true, if_false]
   cases h3 : (!(a.num.neg == b.num.neg)) with
   | true =>
    obtain ⟨z, hz, hn⟩ := tree_less_ne (K := K) (b := b.num.neg)
    simp only [if_true, hz]; exact ⟨z, rfl, fun h => absurd h hn, fun h => by subst h; simp at h3⟩
   | false =>
    simp only [Bool.false_eq_true, if_false]
    obtain ⟨z, hz, he⟩ := tree_words_ex (K := K) (num_few hf).1 hK2
    rw [hz, Option.bind_some]
    cases h4 : (z != 0) with
    | true =>
     have hn : z ≠ 0 := by simpa using h4
     simp only [if_true]; exact ⟨z, rfl, fun h => absurd h hn, fun h => absurd (he.2 (by rw [h])) hn⟩
    | false =>
     have e4 := he.1 (by simpa using h4)
     simp only [Bool.false_eq_true, if_false]
     obtain ⟨y, hy, hd⟩ := tree_words_ex (K := K) (num_few hf).2 hK2
     rw [hy, Option.bind_some]
     cases h5 : (y != 0) with
     | true =>
      have hn : y ≠ 0 := by simpa using h5
      simp only [if_true]; exact ⟨y, rfl, fun h => absurd h hn, fun h => absurd (hd.2 (by rw [h])) hn⟩
     | false =>
      have e5 := hd.1 (by simpa using h5)
      simp only [Bool.false_eq_true, if_false]
      cases h6 : ((a.kids.length : Int) != (b.kids.length : Int)) with
      | true =>
       obtain ⟨z, hz, hn⟩ := tree_less_ne (K := K) (b := decide ((a.kids.length : Int) < (b.kids.length : Int)))
       simp only [if_true, hz]; exact ⟨z, rfl, fun h => absurd h hn, fun h => by subst h; simp at h6⟩
      | false =>
       simp only [Bool.false_eq_true, if_false]
       obtain ⟨o, ho, hp⟩ := kids_loop (ks := a.kids) (ls := b.kids) (K := K) (S := S) (by simp at h6; omega) (by omega) (by omega) ih'
       rw [ho, Option.bind_some]
       rcases hp with ⟨rfl, he⟩ | ⟨z, rfl, hn, he⟩
       ·refine ⟨0, rfl, fun _ => node_ext (by simpa using h1) (eqB.1 (by simpa using h2)) (by simpa using h3) e4 e5 he, fun _ => rfl⟩
       ·exact ⟨z, rfl, fun h => absurd h hn, fun h => absurd (by rw [h]) he⟩
theorem r08_less_ex {K : Nat} {x y : Int} : ∃ z, r08_less K x y = some z ∧ (z = 0 ↔ x = y) := by
 unfold r08_less
 by_cases h : x < y
 ·rw [decide_eq_true h]; exact ⟨-1, rfl, by omega⟩
 ·by_cases h2 : y < x
  ·rw [decide_eq_false h, decide_eq_true h2]; exact ⟨1, rfl, by omega⟩
  ·rw [decide_eq_false h, decide_eq_false h2]; exact ⟨0, rfl, by omega⟩
theorem r08_cmp_ex {K : Nat} (hK2 : 100 < K) : ∀ (a b : NodeA) (j : Nat), (FewN a ∨ FewN b) → a.size ≤ j → a.size ≤ K → a.size ≤ big → ∃ z, iter j (fun self q => r08_Compare_body K self q.1 q.2) (a, b) = some z ∧ (z = 0 ↔ a = b) := by
 refine NodeA.ind fun a ih => ?_
 intro b j hf hj hK hb
 have hp := a.size_pos
 have hkl := a.kids_lt
 obtain ⟨j, rfl⟩ : ∃ i, j = i + 1 := ⟨j - 1, by omega⟩
 rw [iter_succ]
 have ih' : ∀ (i : Nat) x y, a.kids[i]? = some x → b.kids[i]? = some y → ∃ z, iter j (fun self q => r08_Compare_body K self q.1 q.2) (x, y) = some z ∧ (z = 0 ↔ x = y) := fun i x y hx hy => by
  have h1 := List.mem_of_getElem? hx
  have h2 := List.mem_of_getElem? hy
  have := NodeA.size_lt h1
  exact ih x h1 y j (hf.imp (fun h => FewN_kid h h1) fun h => FewN_kid h h2) (by omega) (by omega) (by omega)
 generalize iter j (fun self q => r08_Compare_body K self q.1 q.2) = S at ih' ⊢
 show ∃ z, r08_Compare_body K S a b = some z ∧ _
 unfold r08_Compare_body
 obtain ⟨z1, hz1, he1⟩ := r08_less_ex (K := K) (x := a.op) (y := b.op)
 rw [hz1, Option.bind_some]
 cases h1 : (z1 != 0) with
 | true =>
  have hn : z1 ≠ 0 := by simpa using h1
  simp only [if_true]; exact ⟨z1, rfl, fun h => absurd h hn, fun h => absurd (he1.2 (by rw [h])) hn⟩
 | false =>
  have e1 := he1.1 (by simpa using h1)
  simp only [Bool.false_eq_true, if_false]
  cases h2 : (!(a.name.toList == b.name.toList)) with
  | true =>
   have hne : a ≠ b := fun h => by subst h; simp at h2
   simp only [if_true]
   cases Op.bytesLess a.name.toList b.name.toList
   ·exact ⟨1, rfl, by omega, fun h => absurd h hne⟩
   ·exact ⟨-1, rfl, by omega, fun h => absurd h hne⟩
  | false =>
   simp only [Bool.false_eq_true, if_false]
   cases h3 : (!(a.num.neg == b.num.neg)) with
   | true =>
    have hne : a ≠ b := fun h => by subst h; simp at h3
    simp only [if_true]
    cases b.num.neg
    ·exact ⟨1, rfl, by omega, fun h => absurd h hne⟩
    ·exact ⟨-1, rfl, by omega, fun h => absurd h hne⟩
   | false =>
    simp only [Bool.false_eq_true, if_false]
    obtain ⟨z, hz, he⟩ := r08_words_ex (K := K) (num_few hf).1 hK2
    rw [hz, Option.bind_some]
    cases h4 : (z != 0) with
    | true =>
     have hn : z ≠ 0 := by simpa using h4
     simp only [if_true]; exact ⟨z, rfl, fun h => absurd h hn, fun h => absurd (he.2 (by rw [h])) hn⟩
    | false =>
     have e4 := he.1 (by simpa using h4)
     simp only [Bool.false_eq_true, if_false]
     obtain ⟨y, hy, hd⟩ := r08_words_ex (K := K) (num_few hf).2 hK2
     rw [hy, Option.bind_some]
     cases h5 : (y != 0) with
     | true =>
      have hn : y ≠ 0 := by simpa using h5
      simp only [if_true]; exact ⟨y, rfl, fun h => absurd h hn, fun h => absurd (hd.2 (by rw [h])) hn⟩
     | false =>
      have e5 := hd.1 (by simpa using h5)
      simp only [Bool.false_eq_true, if_false]
      obtain ⟨u, hu, he6⟩ := r08_less_ex (K := K) (x := (a.kids.length : Int)) (y := (b.kids.length : Int))
      rw [hu, Option.bind_some]
      cases h6 : (u != 0) with
      | true =>
       have hn : u ≠ 0 := by simpa using h6
       simp only [if_true]; exact ⟨u, rfl, fun h => absurd h hn, fun h => absurd (he6.2 (by rw [h])) hn⟩
      | false =>
       have e6 := he6.1 (by simpa using h6)
       simp only [Bool.false_eq_true, if_false]
       obtain ⟨o, ho, hp⟩ := kids_loop (ks := a.kids) (ls := b.kids) (K := K) (S := S) (by omega) (by omega) (by omega) ih'
       rw [ho, Option.bind_some]
       rcases hp with ⟨rfl, he⟩ | ⟨z, rfl, hn, he⟩
       ·refine ⟨0, rfl, fun _ => node_ext e1 (eqB.1 (by simpa using h2)) (by simpa using h3) e4 e5 he, fun _ => rfl⟩
       ·exact ⟨z, rfl, fun h => absurd h hn, fun h => absurd (by rw [h]) he⟩
theorem tree_Equal_ex {K : Nat} (hK2 : 100 < K) {a b : NodeA} (hf : FewN a ∨ FewN b) (hK : a.size ≤ K) (hb : a.size ≤ big) : ∃ c, tree_Equal K a b = some c ∧ (c = true ↔ a = b) := by
 obtain ⟨z, hz, he⟩ := tree_cmp_ex hK2 a b K hf hK hK hb
 unfold tree_Equal tree_Compare
 rw [hz, Option.bind_some]
 exact ⟨_, rfl, by simpa using he⟩
theorem r08_Equal_ex {K : Nat} (hK2 : 100 < K) {a b : NodeA} (hf : FewN a ∨ FewN b) (hK : a.size ≤ K) (hb : a.size ≤ big) : ∃ c, r08_Equal K a b = some c ∧ (c = true ↔ a = b) := by
 obtain ⟨z, hz, he⟩ := r08_cmp_ex hK2 a b K hf hK hK hb
 unfold r08_Equal r08_Compare
 rw [hz, Option.bind_some]
 exact ⟨_, rfl, by simpa using he⟩
theorem tree_Equal_no {K : Nat} (hK2 : 100 < K) {a b : NodeA} (hf : FewN a ∨ FewN b) (hK : a.size ≤ K) (hb : a.size ≤ big) (hne : a ≠ b) : tree_Equal K a b = some false := by
 obtain ⟨c, h, he⟩ := tree_Equal_ex hK2 hf hK hb
 cases c with
 | false => exact h
 | true => exact absurd (he.1 rfl) hne
theorem tree_Equal_yes {K : Nat} (hK2 : 100 < K) {a : NodeA} (hf : FewN a) (hK : a.size ≤ K) (hb : a.size ≤ big) : tree_Equal K a a = some true := by
 obtain ⟨c, h, he⟩ := tree_Equal_ex hK2 (.inl hf) hK hb
 rw [he.2 rfl] at h; exact h
end Go.Proofs.YtfnfjjgphhoigaaGreat
namespace Go.Proofs.YtfnfjjgphhoigaaGreat
open Go Go.Iso Go.Proofs
set_option linter.unusedSimpArgs false
set_option linter.unusedVariables false
set_option maxRecDepth 100000
/-! ### Symbols -/
abbrev dotN : NodeA := NodeA.mk 13 ⟨#[]⟩ (RatA.mk false [] []) []
def symB (op : Int) : Bool := op == 10 || (op == 37 || (op == 11 || (op == 38 || (op == 61 || (op == 62 || op == 56)))))
def headS (n : NodeA) : NodeA := NodeA.mk n.op n.name (RatA.mk false [] []) (if (n.op == 10 || n.op == 37) && decide (0 < n.kids.length) then [dotN] else [])
theorem symB_iff {op : Int} : symB op = true ↔ op = 10 ∨ op = 37 ∨ op = 11 ∨ op = 38 ∨ op = 61 ∨ op = 62 ∨ op = 56 := by
 unfold symB; simp only [Bool.or_eq_true, beq_iff_eq]
theorem symbol_eq {K : Nat} {n : NodeA} : static_symbol K n = some (if symB n.op then headS n else zN, symB n.op) := by
 unfold static_symbol headS
 by_cases h10 : n.op = 10
 ·by_cases hk : 0 < n.kids.length
  ·have e : decide ((0 : Int) < (n.kids.length : Int)) = true := decide_eq_true (by omega)
   simp [h10, e, hk, symB, outM_eq]; rfl
  ·have e : decide ((0 : Int) < (n.kids.length : Int)) = false := decide_eq_false (by omega)
   simp [h10, e, hk, symB, outM_eq]; rfl
 by_cases h37 : n.op = 37
 ·by_cases hk : 0 < n.kids.length
  ·have e : decide ((0 : Int) < (n.kids.length : Int)) = true := decide_eq_true (by omega)
   simp [h37, e, hk, symB, outM_eq]; rfl
  ·have e : decide ((0 : Int) < (n.kids.length : Int)) = false := decide_eq_false (by omega)
   simp [h37, e, hk, symB, outM_eq]; rfl
 by_cases h11 : n.op = 11
 ·simp [h11, symB, outM_eq, Out.fin]
 by_cases h38 : n.op = 38
 ·simp [h38, symB, outM_eq, Out.fin]
 by_cases h61 : n.op = 61
 ·simp [h61, symB, outM_eq, Out.fin]
 by_cases h62 : n.op = 62
 ·simp [h62, symB, outM_eq, Out.fin]
 by_cases h56 : n.op = 56
 ·simp [h56, symB, outM_eq, Out.fin]
 have e : symB n.op = false := by
  cases hb : symB n.op with
  | false => rfl
  | true => rcases symB_iff.1 hb with h | h | h | h | h | h | h <;> contradiction
 rw [e]
 simp [h10, h37, h11, h38, h61, h62, h56, Out.fin]
theorem r10_Symbol_eq {K : Nat} {n : NodeA} : r10_Symbol K n = some (symB n.op) := by
 unfold r10_Symbol symB
 cases (n.op == 10) <;> cases (n.op == 11) <;> cases (n.op == 37) <;> cases (n.op == 38) <;> cases (n.op == 61) <;> cases (n.op == 62) <;> cases (n.op == 56) <;> rfl
def headR (n : NodeA) : NodeA := NodeA.mk n.op n.name (RatA.mk false [] []) (if 0 < n.kids.length then [dotN] else [])
theorem r10_Head_eq {K : Nat} {n : NodeA} : r10_Head K n = some (headR n) := by
 unfold r10_Head headR
 by_cases hk : 0 < n.kids.length
 ·have e : decide ((0 : Int) < (n.kids.length : Int)) = true := decide_eq_true (by omega)
  rw [e, if_pos hk]; rfl
 ·have e : decide ((0 : Int) < (n.kids.length : Int)) = false := decide_eq_false (by omega)
  rw [e, if_neg hk]; rfl
theorem few0 : Few (RatA.mk false [] []) := ⟨by simp, by simp⟩
theorem fewN_leaf {op : Int} {m : ByteArray} : FewN (NodeA.mk op m (RatA.mk false [] []) []) := by rw [FewN_mk]; exact ⟨few0, fun k hk => by cases hk⟩
theorem fewN_dots {op : Int} {m : ByteArray} {c : Bool} : FewN (NodeA.mk op m (RatA.mk false [] []) (if c then [dotN] else [])) := by
 rw [FewN_mk]
 refine ⟨few0, fun k hk => ?_⟩
 cases c with
 | true => rw [if_pos rfl, List.mem_singleton] at hk; subst hk; exact fewN_leaf
 | false => cases hk
theorem size_dots {op : Int} {m : ByteArray} {r : RatA} {c : Bool} : (NodeA.mk op m r (if c then [dotN] else [])).size ≤ 2 := by
 rw [NodeA.size_mk]
 cases c with
 | true => rw [if_pos rfl]; simp [NodeA.size_mk]
 | false => simp
theorem headS_few {n : NodeA} : FewN (headS n) ∧ (headS n).size ≤ 2 := ⟨fewN_dots, size_dots⟩
theorem headR_eq {n : NodeA} : headR n = NodeA.mk n.op n.name (RatA.mk false [] []) (if decide (0 < n.kids.length) then [dotN] else []) := by unfold headR; simp
theorem headR_few {n : NodeA} : FewN (headR n) ∧ (headR n).size ≤ 2 := by rw [headR_eq]; exact ⟨fewN_dots, size_dots⟩
theorem headS_idem {n : NodeA} : headS (headS n) = headS n := by
 unfold headS
 simp only [NodeA.op_mk, NodeA.name_mk, NodeA.kids_mk]
 congr 1
 cases h : ((n.op == 10 || n.op == 37) && decide (0 < n.kids.length)) with
 | true =>
  have h1 : (n.op == 10 || n.op == 37) = true := by simp only [Bool.and_eq_true] at h; exact h.1
  rw [h1]; rfl
 | false => simp
def symsN : NodeA → List NodeA
 | .mk op m r ks => (if symB op then [headS (.mk op m r ks)] else []) ++ (ks.attach.map fun ⟨k, _⟩ => symsN k).flatten
termination_by n => SizeOf.sizeOf n
decreasing_by exact NodeA.size_kid (by assumption)
theorem symsN_eq (n : NodeA) : symsN n = (if symB n.op then [headS n] else []) ++ (n.kids.map symsN).flatten := by
 cases n with | mk o m r ks => rw [symsN]; simp [NodeA.op_mk, NodeA.kids_mk]
theorem syms_kid {n k x : NodeA} (hk : k ∈ n.kids) (hx : x ∈ symsN k) : x ∈ symsN n := by
 rw [symsN_eq]; exact List.mem_append_right _ (List.mem_flatten.2 ⟨_, List.mem_map_of_mem hk, hx⟩)
theorem syms_self {n : NodeA} (h : symB n.op = true) : headS n ∈ symsN n := by
 rw [symsN_eq, if_pos h]; simp
theorem syms_head : ∀ (n x : NodeA), x ∈ symsN n → symB x.op = true ∧ headS x = x ∧ FewN x ∧ x.size ≤ 2 := by
 refine NodeA.ind fun n ih => ?_
 intro x hx
 rw [symsN_eq, List.mem_append] at hx
 rcases hx with hx | hx
 ·split at hx
  ·next h => rw [List.mem_singleton] at hx; subst hx; exact ⟨h, headS_idem, headS_few⟩
  ·cases hx
 ·obtain ⟨l, hl, hx⟩ := List.mem_flatten.1 hx
  obtain ⟨k, hk, rfl⟩ := List.mem_map.1 hl
  exact ih k hk x hx
/-! ### The list of symbols -/
theorem mid_eq {i j : Nat} (h : i + j < 9223372036854775807) : IntKind.wrap .i64 (bShr .u64 (IntKind.wrap .u64 (IntKind.wrap .i64 ((i : Int) + (j : Int)))) (1 : Int)) = (((i + j) / 2 : Nat) : Int) := by
 have e0 : IntKind.wrap .i64 ((i : Int) + (j : Int)) = (i : Int) + (j : Int) := w64 (by omega) (by omega)
 rw [e0]
 have e : IntKind.wrap .u64 ((i : Int) + (j : Int)) = (i : Int) + (j : Int) := by
  unfold IntKind.wrap
  simp [IntKind.bits, IntKind.signed]
  omega
 rw [e]
 have e2 : bShr .u64 ((i : Int) + (j : Int)) 1 = (((i + j) / 2 : Nat) : Int) := by
  unfold bShr
  have : min (1 : Int).toNat (IntKind.bits .u64) = 1 := by decide
  rw [this, show ((2 : Int) ^ 1) = 2 by decide, Int.fdiv_eq_ediv_of_nonneg _ (by omega)]
  omega
 rw [e2, w64 (by omega) (by omega)]
def Small (x : NodeA) : Prop := FewN x ∧ x.size ≤ 2
theorem symSearch {K : Nat} (hK : 100 < K) {l : List NodeA} {v : NodeA} (hl : l.length ≤ big) (hs : ∀ x ∈ l, Small x) : ∀ (k i j : Nat), j - i < k → i ≤ j → j ≤ l.length →
  ∃ r : Nat, r ≤ l.length ∧ iter (S := Int × Int) (R := Int) k (fun again (q : Int × Int) =>
   if (decide (q.1 < q.2)) then
    (must (decide ((0 : Int) ≤ (1 : Int)))).bind fun _ =>
    (static_SymbolsOf_1_1 K (IntKind.wrap .i64 (bShr .u64 (IntKind.wrap .u64 (IntKind.wrap .i64 (q.1 + q.2))) (1 : Int))) l v).bind fun r7 =>
    if (!r7) then
     again (IntKind.wrap .i64 ((IntKind.wrap .i64 (bShr .u64 (IntKind.wrap .u64 (IntKind.wrap .i64 (q.1 + q.2))) (1 : Int))) + (1 : Int)), q.2)
    else
     again (q.1, IntKind.wrap .i64 (bShr .u64 (IntKind.wrap .u64 (IntKind.wrap .i64 (q.1 + q.2))) (1 : Int)))
   else
    some q.1) ((i : Int), (j : Int)) = some (r : Int) := by
 have hb : big = 1099511627776 := rfl
 intro k
 induction k with
 | zero => intro i j h; omega
 | succ k ih =>
  intro i j hk hij hj
  rw [iter_succ]
  by_cases e : i < j
  ·have d : decide ((i : Int) < (j : Int)) = true := decide_eq_true (by omega)
   have hm : (i + j) / 2 < l.length := by omega
   have hx : l[(i + j) / 2]? = some l[(i + j) / 2] := List.getElem?_eq_getElem hm
   simp only [d, if_true, mid_eq (i := i) (j := j) (by omega)]
   obtain ⟨h1, h2⟩ := hs _ (List.getElem_mem hm)
   obtain ⟨z, hz, _⟩ := tree_cmp_ex (K := K) hK l[(i + j) / 2] v K (.inl h1) (by omega) (by omega) (by omega)
   unfold static_SymbolsOf_1_1 tree_Compare
   simp only [must, decide_true, Int.reduceLE, if_true, Option.bind_some, idx_nat, hx, hz]
   by_cases hlt : 0 ≤ z
   ·rw [decide_eq_true hlt]
    simp only [Bool.not_true, Bool.false_eq_true, if_false]
    exact ih _ _ (by omega) (by omega) (by omega)
   ·rw [decide_eq_false hlt]
    simp only [Bool.not_false, if_true]
    rw [w64s (by omega)]
    exact ih _ _ (by omega) (by omega) hj
  ·obtain rfl : i = j := by omega
   have d : decide ((i : Int) < (i : Int)) = false := by simp
   simp only [d, Bool.false_eq_true, if_false]
   exact ⟨i, hj, rfl⟩
theorem symIns {K : Nat} {L : Option (List NodeA)} {s : NodeA} {r : Nat} (hl : (L.getD []).length < big) (hr : r ≤ (L.getD []).length) :
  ∃ L' : List NodeA, ((appO 104 (L.getD []) [zN]).bind fun l16 =>
    (idx l16 ((L.getD []).length : Int)).bind fun x18 =>
    (subO (some (l16.set ((L.getD []).length) zN)) (IntKind.wrap .i64 ((r : Int) + (1 : Int)))).bind fun l21 =>
    (subO (some (l16.set ((L.getD []).length) zN)) (r : Int)).bind fun l23 =>
    (idx (cpyL (l16.set ((L.getD []).length) zN) (IntKind.wrap .i64 ((r : Int) + (1 : Int))) l21 l23) (r : Int)).bind fun x24 =>
    some (some ((cpyL (l16.set ((L.getD []).length) zN) (IntKind.wrap .i64 ((r : Int) + (1 : Int))) l21 l23).set ((r : Int).toNat) s))) = some (some L') ∧ (∀ x ∈ L', x ∈ L.getD [] ∨ x = s ∨ x = zN) ∧ L'.length ≤ (L.getD []).length + 1 := by
 generalize L.getD [] = l at hl hr
 have hb : big = 1099511627776 := rfl
 rw [app_node (by omega), Option.bind_some]
 have hx : (l ++ [zN])[l.length]? = some zN := by rw [List.getElem?_append_right (Nat.le_refl _)]; simp
 have e : (l ++ [zN]).set l.length zN = l ++ [zN] := by simp
 rw [idx_nat, hx, Option.bind_some, e, w64s (by omega)]
 have h1 : subO (some (l ++ [zN])) ((r + 1 : Nat) : Int) = some ((l ++ [zN]).drop (r + 1)) := by
  unfold subO; rw [Option.bind_some, if_pos ⟨by omega, by simp; omega⟩]; rfl
 have h2 : subO (some (l ++ [zN])) (r : Int) = some ((l ++ [zN]).drop r) := by
  unfold subO; rw [Option.bind_some, if_pos ⟨by omega, by simp; omega⟩]; rfl
 rw [h1, h2, Option.bind_some, Option.bind_some]
 generalize hc : cpyL (l ++ [zN]) ((r + 1 : Nat) : Int) ((l ++ [zN]).drop (r + 1)) ((l ++ [zN]).drop r) = c
 have hlen : c.length = l.length + 1 := by
  subst hc; unfold cpyL; simp only [List.length_append, List.length_take, List.length_drop, List.length_singleton, Int.toNat_natCast]; omega
 have hmem : ∀ x ∈ c, x ∈ l ∨ x = zN := by
  intro x hx
  have : x ∈ l ++ [zN] := by
   subst hc
   unfold cpyL at hx
   rw [List.mem_append, List.mem_append] at hx
   rcases hx with (hx | hx) | hx
   ·exact List.mem_of_mem_take hx
   ·exact List.mem_of_mem_drop (List.mem_of_mem_take hx)
   ·exact List.mem_of_mem_drop hx
  rw [List.mem_append, List.mem_singleton] at this; exact this
 rw [idx_nat, List.getElem?_eq_getElem (by omega), Option.bind_some, Int.toNat_natCast]
 refine ⟨_, rfl, fun x hx => ?_, by rw [List.length_set]; omega⟩
 rcases List.mem_or_eq_of_mem_set hx with h | h
 ·rcases hmem x h with h | h
  ·exact .inl h
  ·exact .inr (.inr h)
 ·exact .inr (.inl h)
theorem small_z : Small zN := ⟨fewN_leaf, by simp [NodeA.size_mk]⟩
theorem symsOf_iter {K : Nat} (hK2 : 100 < K) : ∀ (n : NodeA) (j : Nat) (L : Option (List NodeA)), (∀ x ∈ L.getD [], Small x) → n.size ≤ j → n.size + (L.getD []).length < K → n.size + (L.getD []).length ≤ big →
  ∃ L' : Option (List NodeA), iter j (fun self q => static_SymbolsOf_1_body K self q.1 q.2) (n, L) = some L' ∧ (∀ x ∈ L'.getD [], x ∈ L.getD [] ∨ x ∈ symsN n ∨ x = zN) ∧ (L'.getD []).length ≤ (L.getD []).length + n.size := by
 have hb0 : big = 1099511627776 := rfl
 refine NodeA.ind fun n ih => ?_
 intro j L hs hj hK hb
 have hp := n.size_pos
 have hkl := n.kids_lt
 obtain ⟨j, rfl⟩ : ∃ i, j = i + 1 := ⟨j - 1, by omega⟩
 rw [iter_succ]
 have ih' : ∀ k ∈ n.kids, ∀ L : Option (List NodeA), (∀ x ∈ L.getD [], Small x) → k.size + (L.getD []).length < K → k.size + (L.getD []).length ≤ big → ∃ L' : Option (List NodeA), iter j (fun self q => static_SymbolsOf_1_body K self q.1 q.2) (k, L) = some L' ∧ (∀ x ∈ L'.getD [], x ∈ L.getD [] ∨ x ∈ symsN k ∨ x = zN) ∧ (L'.getD []).length ≤ (L.getD []).length + k.size := fun k hk L h1 h2 h3 => ih k hk j L h1 (by have := NodeA.size_lt hk; omega) h2 h3
 generalize iter j (fun self q => static_SymbolsOf_1_body K self q.1 q.2) = S at ih' ⊢
 show ∃ L', static_SymbolsOf_1_body K S n L = some L' ∧ _
 unfold static_SymbolsOf_1_body
 rw [symbol_eq]
 -- the node's own symbol
 have first : ∃ L1 : Option (List NodeA), ((if symB n.op then
   (sort_Search_static_SymbolsOf_1_1 K ((L.getD []).length : Int) (L.getD []) (if symB n.op then headS n else zN)).bind fun r6 =>
   ((
    if (r6 == ((L.getD []).length : Int)) then
     some true
    else
     (idx (L.getD []) r6).bind fun x11 =>
     (tree_Equal K x11 (if symB n.op then headS n else zN)).bind fun r13 =>
     some (!r13)) : Option Bool).bind (fun v8_0 =>
   if v8_0 then
    (appO 104 (L.getD []) [zN]).bind fun l16 =>
    (idx l16 ((L.getD []).length : Int)).bind fun x18 =>
    (subO (some (l16.set ((L.getD []).length) zN)) (IntKind.wrap .i64 (r6 + (1 : Int)))).bind fun l21 =>
    (subO (some (l16.set ((L.getD []).length) zN)) r6).bind fun l23 =>
    (idx (cpyL (l16.set ((L.getD []).length) zN) (IntKind.wrap .i64 (r6 + (1 : Int))) l21 l23) r6).bind fun x24 =>
    some (some ((cpyL (l16.set ((L.getD []).length) zN) (IntKind.wrap .i64 (r6 + (1 : Int))) l21 l23).set (r6.toNat) (if symB n.op then headS n else zN)))
   else
    some L)
  else
   some L) : Option (Option (List NodeA))) = some L1 ∧ (∀ x ∈ L1.getD [], x ∈ L.getD [] ∨ x ∈ symsN n ∨ x = zN) ∧ (L1.getD []).length ≤ (L.getD []).length + 1 := by
  cases hsy : symB n.op with
  | false => exact ⟨L, rfl, fun x hx => .inl hx, by omega⟩
  | true =>
   simp only [if_true]
   obtain ⟨r, hr, hit⟩ := symSearch (K := K) hK2 (l := L.getD []) (v := headS n) (by omega) hs K 0 (L.getD []).length (by omega) (by omega) (Nat.le_refl _)
   have e0 : sort_Search_static_SymbolsOf_1_1 K ((L.getD []).length : Int) (L.getD []) (headS n) = some (r : Int) := by
    unfold sort_Search_static_SymbolsOf_1_1
    exact ob _ hit rfl
   rw [e0, Option.bind_some]
   obtain ⟨L', h1, h2, h3⟩ := symIns (K := K) (L := L) (s := headS n) (by omega) hr
   have fin : ∃ L1 : Option (List NodeA), (some (some L') : Option (Option (List NodeA))) = some L1 ∧ (∀ x ∈ L1.getD [], x ∈ L.getD [] ∨ x ∈ symsN n ∨ x = zN) ∧ (L1.getD []).length ≤ (L.getD []).length + 1 :=
    ⟨some L', rfl, fun x hx => by
     rcases h2 x hx with h | h | h
     ·exact .inl h
     ·subst h; exact .inr (.inl (syms_self hsy))
     ·exact .inr (.inr h), h3⟩
   by_cases hre : r = (L.getD []).length
   ·have e : ((r : Int) == ((L.getD []).length : Int)) = true := by rw [hre]; simp
    rw [e]
    simp only [if_true, Option.bind_some]
    rw [h1]; exact fin
   ·have e : ((r : Int) == ((L.getD []).length : Int)) = false := by rw [beq_eq_false_iff_ne]; omega
    have hlt : r < (L.getD []).length := by omega
    have hx : idx (L.getD []) (r : Int) = some (L.getD [])[r] := by rw [idx_nat]; exact List.getElem?_eq_getElem hlt
    obtain ⟨q1, q2⟩ := hs _ (List.getElem_mem hlt)
    rw [e]
    obtain ⟨c, hc, _⟩ := tree_Equal_ex hK2 (b := headS n) (.inl q1) (show (L.getD [])[r].size ≤ K by omega) (show (L.getD [])[r].size ≤ big by omega)
    simp only [Bool.false_eq_true, if_false, hx, Option.bind_some, hc]
    cases c with
    | true => exact ⟨L, rfl, fun x hx => .inl hx, by omega⟩
    | false => simp only [Bool.not_false, if_true]; rw [h1]; exact fin
 obtain ⟨L1, hL1, hm1, hl1⟩ := first
 refine ex_ob ⟨L1, by rw [Option.bind_some]; exact hL1, ?_⟩
 have hs1 : ∀ x ∈ L1.getD [], Small x := fun x hx => by
  rcases hm1 x hx with h | h | h
  ·exact hs x h
  ·exact (syms_head n x h).2.2
  ·subst h; exact small_z
 have hsz : n.size = 1 + (n.kids.map NodeA.size).sum := by cases n with | mk o m r ks => rw [NodeA.size_mk]; rfl
 have loop := loopE (S := Int × Option (List NodeA)) (O := Option (List NodeA)) (J := fun i s => s.1 = (i : Int) ∧ (∀ x ∈ s.2.getD [], x ∈ L.getD [] ∨ x ∈ symsN n ∨ x = zN) ∧ (s.2.getD []).length ≤ (L.getD []).length + 1 + ((n.kids.take i).map NodeA.size).sum)
  (Post := fun _ _ o => (∀ x ∈ o.getD [], x ∈ L.getD [] ∨ x ∈ symsN n ∨ x = zN) ∧ (o.getD []).length ≤ (L.getD []).length + n.size)
  (f := fun again (q : Int × Option (List NodeA)) =>
  if (decide (q.1 < (n.kids.length : Int))) then
   (idx n.kids q.1).bind fun x31 =>
   (S (x31, q.2)).bind fun r33 =>
   again (IntKind.wrap .i64 (q.1 + (1 : Int)), r33)
  else
   some q.2) n.kids.length (fun g i s hi hj hg => ?_) (fun g s hj => ?_) (K := K) 0 ((0 : Int), L1) ⟨rfl, hm1, by simpa using hl1⟩ (Nat.zero_le _) (by omega)
 ·obtain ⟨o, ho, hm, hl⟩ := loop
  refine ex_ob ⟨o, ho, o, rfl, hm, hl⟩
 ·obtain ⟨z, M⟩ := s
  obtain ⟨rfl, hm, hl⟩ := hj
  have hx : n.kids[i]? = some n.kids[i] := List.getElem?_eq_getElem hi
  have hmem := List.getElem_mem hi
  have h1 := sum_take (f := NodeA.size) hx
  have h2 := sum_take_le (l := n.kids) (f := NodeA.size) (i := i + 1)
  simp only at hm hl
  have hsM : ∀ x ∈ M.getD [], Small x := fun x hx => by
   rcases hm x hx with h | h | h
   ·exact hs x h
   ·exact (syms_head n x h).2.2
   ·subst h; exact small_z
  obtain ⟨M', hM, hm', hl'⟩ := ih' _ hmem M hsM (by omega) (by omega)
  simp only [lt_tn hi, if_true, idx_nat, hx, Option.bind_some, hM]
  rw [w64s (by omega)]
  refine hg _ ⟨rfl, fun x hx => ?_, by show (M'.getD []).length ≤ _; omega⟩
  rcases hm' x hx with h | h | h
  ·exact hm x h
  ·exact .inr (.inl (syms_kid hmem h))
  ·exact .inr (.inr h)
 ·obtain ⟨z, M⟩ := s
  obtain ⟨rfl, hm, hl⟩ := hj
  simp only [lt_fn (Nat.le_refl n.kids.length), Bool.false_eq_true, if_false]
  rw [List.take_length] at hl
  exact ⟨_, rfl, hm, by simp only at hl; omega⟩
theorem SymbolsOf_ex {K : Nat} {n : NodeA} (hK2 : 100 < K) (hK : n.size < K) (hb : n.size ≤ big) : ∃ L, static_SymbolsOf K n = some L ∧ (∀ x ∈ L, x ∈ symsN n ∨ x = zN) ∧ L.length ≤ n.size := by
 obtain ⟨L', h1, h2, h3⟩ := symsOf_iter (K := K) hK2 n K none (fun x hx => by cases hx) (by omega) (by simpa using hK) (by simpa using hb)
 refine ⟨L'.getD [], ?_, fun x hx => ?_, by simpa using h3⟩
 ·unfold static_SymbolsOf static_SymbolsOf_1
  rw [h1]; rfl
 ·rcases h2 x hx with h | h | h
  ·cases h
  ·exact .inl h
  ·exact .inr h
/-! ### A walker without a pair of its own -/
def NM (P : List Api_PairA) (n : NodeA) : Prop := ∀ p ∈ P, ∀ s ∈ symsN n, p.what ≠ s
theorem nm_kid {P : List Api_PairA} {n k : NodeA} (h : NM P n) (hk : k ∈ n.kids) : NM P k := fun p hp s hs => h p hp s (syms_kid hk hs)
def PK (P : List Api_PairA) (K : Nat) : Prop := P.length < K ∧ P.length ≤ big ∧ ∀ p ∈ P, p.what.size ≤ K ∧ p.what.size ≤ big
theorem with_eq {K : Nat} (hK2 : 100 < K) {w : Subst_walkerA} {n : NodeA} (hP : PK w.pairs K) (hn : symB n.op = true → ∀ p ∈ w.pairs, p.what ≠ headS n) : ∃ q, subst_walker_with K w n = some (q, false, w) := by
 unfold subst_walker_with static_SymbolOf
 rw [symbol_eq]
 simp only [Option.bind_some]
 cases hs : symB n.op with
 | false => exact ⟨_, rfl⟩
 | true =>
  simp only [Bool.not_true, Bool.false_eq_true, if_false, if_true]
  obtain ⟨h1, h2, h3⟩ := hP
  have hbb : big = 1099511627776 := rfl
  have := foldG (S := Int) (R := Out Unit (Api_PairA × Bool × Subst_walkerA)) w.pairs.length (fun i => (i : Int)) (.go ()) (f := fun again i4_0 =>
   if (decide (i4_0 < (w.pairs.length : Int))) then
    (idx w.pairs i4_0).bind fun x9 =>
    (tree_Equal K x9.what (headS n)).bind fun r11 =>
    if r11 then
     outM (
      some (x9, true, w))
    else
     again (IntKind.wrap .i64 (i4_0 + (1 : Int)))
   else
    some (.go ())) (fun g i hi => by
    have hx : w.pairs[i]? = some w.pairs[i] := List.getElem?_eq_getElem hi
    have hm := List.getElem_mem hi
    simp only [lt_tn hi, if_true, idx_nat, hx, Option.bind_some, tree_Equal_no hK2 (.inr headS_few.1) (h3 _ hm).1 (h3 _ hm).2 (hn hs _ hm), Bool.false_eq_true, if_false]
    rw [w64s (by omega)]) (fun g => by simp only [lt_fn (Nat.le_refl w.pairs.length), Bool.false_eq_true, if_false]) (K := K) (s0 := 0) h1 rfl
  exact ⟨_, ob _ this rfl⟩
theorem stopped_eq {K : Nat} {w : Subst_walkerA} (h1 : w.found = false) (h2 : w.great = false) : subst_walker_stopped K w = some (false, w) := by
 unfold subst_walker_stopped; rw [h1, h2]; rfl
theorem guard_eq {K : Nat} (hK2 : 100 < K) {w : Subst_walkerA} {n : NodeA} {A : Api_NamesA} (hK : n.size < K) (hb : n.size ≤ big) (hP : PK w.pairs K) (hn : NM w.pairs n) (h1 : w.found = false) (h2 : w.great = false) : subst_walker_guard K w n A = some w := by
 unfold subst_walker_guard
 rw [stopped_eq h1 h2]
 simp only [Option.bind_some, Bool.false_eq_true, if_false]
 obtain ⟨L, hL, hm, hl⟩ := SymbolsOf_ex (K := K) hK2 hK hb
 rw [hL, Option.bind_some]
 have hbb : big = 1099511627776 := rfl
 refine ob _ (foldG L.length (fun i => ((i : Int), w.pairs, w.clash, w.found, w.great, w.path)) (.go (w.pairs, w.clash, w.found, w.great, w.path)) (fun g i hi => ?_) (fun g => ?_) (by omega) rfl) rfl
 ·have hx : L[i]? = some L[i] := List.getElem?_eq_getElem hi
  simp only [lt_tn hi, if_true, idx_nat, hx, Option.bind_some]
  have hsk : ∀ op : Int, (if (op != (10 : Int)) then some (op != (37 : Int)) else some false : Option Bool) = some (!(op == 10 || op == 37)) := fun op => by
   cases h : (op == (10 : Int)) <;> simp [bne, h]
  rw [hsk, Option.bind_some]
  cases hop : (L[i].op == 10 || L[i].op == 37) with
  | false =>
   simp only [Bool.not_false, if_true, outM_eq, Option.bind_some, Out.fin_out, Out.fin_go]
   rw [w64s (by omega)]
  | true =>
   simp only [Bool.not_true, Bool.false_eq_true, if_false, Option.bind_some, Out.fin_go]
   have hsy : L[i] ∈ symsN n := by
    rcases hm _ (List.getElem_mem hi) with h | h
    ·exact h
    ·rw [h] at hop; cases hop
   obtain ⟨q, hq⟩ := with_eq hK2 (w := w) (n := L[i]) hP (fun _ p hp => by rw [(syms_head n _ hsy).2.1]; exact hn p hp _ hsy)
   have hw : Subst_walkerA.mk w.pairs w.path w.clash w.found w.great = w := rfl
   rw [hw, hq, Option.bind_some]
   simp only [Bool.false_eq_true, if_false, Option.bind_some, Out.fin_go]
   rw [w64s (by omega)]
 ·simp only [lt_fn (Nat.le_refl L.length), Bool.false_eq_true, if_false]
end Go.Proofs.YtfnfjjgphhoigaaGreat
namespace Go.Proofs.YtfnfjjgphhoigaaGreat
open Go Go.Iso Go.Proofs
set_option linter.unusedSimpArgs false
set_option linter.unusedVariables false
set_option maxRecDepth 100000
/-! ### The walk -/
theorem ex_loop {S O β : Type} {f : (S → Option O) → S → Option O} {g : O → Option β} {W : β → Prop} {K : Nat} {s0 : S} (n : Nat) (J : Nat → S → Prop) (Post : O → Prop) (h0 : J 0 s0) (hK : n < K)
  (h1 : ∀ g i s, i < n → J i s → (∀ s', J (i + 1) s' → ∃ o, g s' = some o ∧ Post o) → ∃ o, f g s = some o ∧ Post o) (h2 : ∀ g s, J n s → ∃ o, f g s = some o ∧ Post o) (h3 : ∀ o, Post o → ∃ r, g o = some r ∧ W r) :
  ∃ r, (iter K f s0).bind g = some r ∧ W r := by
 obtain ⟨o, ho, hp⟩ := loopE (J := J) (Post := fun _ _ o => Post o) n h1 h2 (K := K) 0 s0 h0 (Nat.zero_le _) (by omega)
 exact ex_ob ⟨o, ho, h3 o hp⟩
theorem kids2 {n : NodeA} (hf : Fine n) (h : n.op = 35 ∨ n.op = 36 ∨ n.op = 57) : 1 < n.kids.length := by
 rcases h with h | h | h
 ·obtain ⟨k0, k1, hks, _⟩ := sorts2 (a := 3) (b := 2) hf (by unfold sortsC; rw [h]; rfl); rw [hks]; simp
 ·obtain ⟨k0, k1, hks, _⟩ := sorts2 (a := 3) (b := 2) hf (by unfold sortsC; rw [h]; rfl); rw [hks]; simp
 ·obtain ⟨k0, k1, hks, _⟩ := sorts2 (a := 3) (b := 3) hf (by unfold sortsC; rw [h]; rfl); rw [hks]; simp
theorem kids1 {n : NodeA} (hf : Fine n) (h : n.op = 33 ∨ n.op = 34 ∨ n.op = 12 ∨ n.op = 39 ∨ n.op = 59) : 0 < n.kids.length := by
 rcases h with h | h | h | h | h
 ·obtain ⟨k0, hks, _⟩ := sorts1 (a := 2) hf (by unfold sortsC; rw [h]; rfl); rw [hks]; simp
 ·obtain ⟨k0, hks, _⟩ := sorts1 (a := 2) hf (by unfold sortsC; rw [h]; rfl); rw [hks]; simp
 ·obtain ⟨k0, hks, _⟩ := sorts1 (a := 1) hf (by unfold sortsC; rw [h]; rfl); rw [hks]; simp
 ·obtain ⟨k0, hks, _⟩ := sorts1 (a := 2) hf (by unfold sortsC; rw [h]; rfl); rw [hks]; simp
 ·obtain ⟨k0, hks, _⟩ := sorts1 (a := 3) hf (by unfold sortsC; rw [h]; rfl); rw [hks]; simp
theorem bound_ex {V : List ByteArray} {K : Nat} (hV : Uni V) {n : NodeA} (hf : Fine n) (hc : Cov V n) (hb : n.size ≤ big) (hK : KS V n K) : ∃ B, static_BoundOf K n = some B :=
 ⟨_, (bound_ev hV n hf hc hb).1.1.2 K K hK (by have := hK.2; omega)⟩
theorem set_take {l : List NodeA} {i : Nat} (h : i < l.length) : l.take i ++ [l[i]] = l.take (i + 1) := by
 rw [List.take_add_one, List.getElem?_eq_getElem h]; rfl
set_option maxHeartbeats 1000000 in
theorem walk_ex {V : List ByteArray} {K : Nat} {P : List Api_PairA} (hK2 : 100 < K) (hV : Uni V) (hP : PK P K) : ∀ (n : NodeA) (j : Nat) (path : Option (List Int)) (clash : List Int), Fine n → Cov V n → n.size ≤ 16000 → NM P n → (path.getD []).length + n.size ≤ big → 2 * n.size ≤ j → KS V n K →
  ∃ p', (grp_subst_walker_walk K j).1 (⟨P, path, clash, false, false⟩, n) = some (n, ⟨P, p', clash, false, false⟩) ∧ p'.getD [] = path.getD [] := by
 have hbb : big = 1099511627776 := rfl
 refine NodeA.ind fun n ih => ?_
 intro j path clash hf hc hb hnm hpl hj hks
 have hp := n.size_pos
 have hkl := n.kids_lt
 obtain ⟨j, rfl⟩ : ∃ i, j = i + 2 := ⟨j - 2, by omega⟩
 have kid : ∀ (i : Nat) (hi : i < n.kids.length) (pt : Option (List Int)), pt.getD [] = path.getD [] → (grp_subst_walker_walk K (j + 1)).2 (⟨P, pt, clash, false, false⟩, n, (i : Int)) = some (n.kids[i], ⟨P, some (path.getD []), clash, false, false⟩) := by
  intro i hi pt hpt
  have hm := List.getElem_mem hi
  have hs := NodeA.size_lt hm
  obtain ⟨p', h1, h2⟩ := ih _ hm j (some (path.getD [] ++ [(i : Int)])) clash (fine_kid hf hm) (cov_kid hc hm) (by omega) (nm_kid hnm hm) (by simp; omega) (by omega) (ks_kid hks hm)
  show subst_walker_kid_body K (grp_subst_walker_walk K j).1 (grp_subst_walker_walk K j).2 ⟨P, pt, clash, false, false⟩ n (i : Int) = _
  unfold subst_walker_kid_body
  have ha : appO 8 (pt.getD []) [(i : Int)] = some (path.getD [] ++ [(i : Int)]) := by
   unfold appO; rw [hpt, if_pos (by simp only [List.length_singleton]; omega)]
  simp only [ha, Option.bind_some, idx_nat, List.getElem?_eq_getElem hi, h1]
  cases p' with
  | none => simp at h2
  | some q =>
   have h2 : q = path.getD [] ++ [(i : Int)] := h2
   subst h2
   have hpop : popO (some (path.getD [] ++ [(i : Int)])) (IntKind.wrap .i64 ((((some (path.getD [] ++ [(i : Int)])).getD []).length : Int) - (1 : Int))) = some (path.getD []) := by
    have e : (((some (path.getD [] ++ [(i : Int)])).getD []).length : Int) - 1 = ((path.getD []).length : Int) := by simp
    rw [e, w64 (by omega) (by omega)]
    unfold popO
    rw [Option.bind_some, if_pos ⟨by omega, by simp; omega⟩, Int.toNat_natCast]
    simp
   rw [hpop]; rfl
 have hguard : ∀ (k : NodeA) (pt : Option (List Int)) (A : Api_NamesA), k ∈ n.kids → subst_walker_guard K ⟨P, pt, clash, false, false⟩ k A = some ⟨P, pt, clash, false, false⟩ := fun k pt A hk => guard_eq hK2 (by have := NodeA.size_lt hk; have := hks.2; omega) (by have := NodeA.size_lt hk; omega) hP (nm_kid hnm hk) rfl rfl
 have hbound : ∀ k ∈ n.kids, ∃ B, static_BoundOf K k = some B := fun k hk => bound_ex hV (fine_kid hf hk) (cov_kid hc hk) (by have := NodeA.size_lt hk; omega) (ks_kid hks hk)
 have hstop : ∀ pt, subst_walker_stopped K ⟨P, pt, clash, false, false⟩ = some (false, ⟨P, pt, clash, false, false⟩) := fun pt => stopped_eq rfl rfl
 suffices h : ∃ r, subst_walker_walk_body K (grp_subst_walker_walk K (j + 1)).1 (grp_subst_walker_walk K (j + 1)).2 ⟨P, path, clash, false, false⟩ n = some r ∧ ∃ p', r = (n, ⟨P, p', clash, false, false⟩) ∧ p'.getD [] = path.getD [] by
  obtain ⟨r, h1, p', rfl, h2⟩ := h
  exact ⟨p', h1, h2⟩
 generalize (grp_subst_walker_walk K (j + 1)).2 = S2 at kid ⊢
 generalize (grp_subst_walker_walk K (j + 1)).1 = S1
 unfold subst_walker_walk_body
 simp only [hstop, Option.bind_some, Bool.false_eq_true, if_false, copy_leaf (fine_few hf) (show 0 < K by omega), NodeA.op_mk, NodeA.name_mk, NodeA.num_mk, NodeA.kids_mk]
 -- what the node binds in its kid
 refine ex_ob ⟨(P, clash, false, false, path), ?_, ?_⟩
 ·simp only [orO']
  cases h1 : (n.op == (33 : Int) || n.op == (34 : Int)) with
  | true =>
   simp only [Bool.or_eq_true, beq_iff_eq] at h1
   obtain ⟨k, hk, e, _⟩ := kid0 (kids1 hf (by omega))
   simp only [Option.bind_some, if_true, e, hguard k _ _ hk]
  | false =>
   simp only [Option.bind_some, Bool.false_eq_true, if_false]
   cases h2 : (n.op == (12 : Int) || n.op == (39 : Int)) with
   | true =>
    simp only [Bool.or_eq_true, beq_iff_eq] at h2
    obtain ⟨k, hk, e, _⟩ := kid0 (kids1 hf (by omega))
    have hall : ∃ A, subst_all K = some A := ⟨_, rfl⟩
    obtain ⟨A, hA⟩ := hall
    simp only [Option.bind_some, if_true, e, hA, hguard k _ _ hk]
   | false => simp only [Option.bind_some, Bool.false_eq_true, if_false]
 -- the kids
 refine ex_loop n.kids.length (fun i s => ∃ pt : Option (List Int), pt.getD [] = path.getD [] ∧ s = ((i : Int), P, clash, false, false, pt, n.kids.take i)) (fun o => ∃ pt : Option (List Int), pt.getD [] = path.getD [] ∧ o = .go (P, clash, false, false, pt, n.kids)) ⟨path, rfl, rfl⟩ (by have := hks.2; omega) (fun g i s hi hj hg => ?_) (fun g s hj => ?_) (fun o ho => ?_)
 ·obtain ⟨pt, hpt, rfl⟩ := hj
  have hm := List.getElem_mem hi
  have hx : idx n.kids (i : Int) = some n.kids[i] := by rw [idx_nat]; exact List.getElem?_eq_getElem hi
  obtain ⟨B, hB⟩ := hbound _ hm
  simp only [lt_tn hi, if_true, kid i hi pt hpt, Option.bind_some, hstop, Bool.false_eq_true, if_false]
  have hflow : ((if (n.kids[i].op == (54 : Int)) then (idx n.kids (i : Int)).bind fun x43 => some (x43.op == (56 : Int)) else some false) : Option Bool) = some false := by
   rw [hx, Option.bind_some]
   cases h : (n.kids[i].op == (54 : Int)) with
   | false => rfl
   | true => have h := eq_of_beq h; rw [h]; rfl
  have happ : appO 104 (n.kids.take i) [n.kids[i]] = some (n.kids.take (i + 1)) := by
   rw [app_node (by rw [List.length_take]; omega), set_take hi]
  simp only [hflow, Option.bind_some, Bool.false_eq_true, if_false, happ]
  have hrest : ∀ pt' : Option (List Int), pt'.getD [] = path.getD [] → ∃ o, g (IntKind.wrap .i64 ((i : Int) + (1 : Int)), P, clash, false, false, pt', n.kids.take (i + 1)) = some o ∧ ∃ pt : Option (List Int), pt.getD [] = path.getD [] ∧ o = .go (P, clash, false, false, pt, n.kids) := fun pt' hpt' => by
   rw [w64s (by omega)]
   exact hg _ ⟨pt', hpt', rfl⟩
  by_cases hi0 : i = 0
  ·subst hi0
   have e0 : (((0 : Nat) : Int) == (0 : Int)) = true := rfl
   simp only [e0, if_true, orO]
   cases h : (n.op == (35 : Int) || (n.op == (36 : Int) || n.op == (57 : Int))) with
   | false =>
    simp only [Option.bind_some, Bool.false_eq_true, if_false, Out.fin_go]
    exact hrest _ rfl
   | true =>
    simp only [Bool.or_eq_true, beq_iff_eq] at h
    obtain ⟨k, hk, e, _⟩ := kid1 (kids2 hf (by omega))
    simp only [Option.bind_some, if_true, e, hB, hguard k _ _ hk, hstop, Bool.false_eq_true, if_false, Out.fin_go]
    exact hrest _ rfl
  ·have e0 : ((i : Int) == (0 : Int)) = false := by rw [beq_eq_false_iff_ne]; omega
   simp only [e0, Bool.false_eq_true, if_false, Option.bind_some, Out.fin_go]
   exact hrest _ rfl
 ·obtain ⟨pt, hpt, rfl⟩ := hj
  simp only [lt_fn (Nat.le_refl n.kids.length), Bool.false_eq_true, if_false, List.take_length]
  exact ⟨_, rfl, pt, hpt, rfl⟩
 ·obtain ⟨pt, hpt, rfl⟩ := ho
  rw [Out.fin_go]
  have hself : NodeA.mk n.op n.name n.num n.kids = n := by cases n; rfl
  simp only [hself]
  refine ex_ob ⟨(P, clash, false, false, n.kids, pt), ?_, ?_⟩
  ·by_cases h59 : n.op = 59
   ·have e : (n.op == (59 : Int)) = true := by rw [h59]; rfl
    obtain ⟨k, hk, ei, _⟩ := kid0 (kids1 hf (by omega))
    obtain ⟨B, hB⟩ := hbound _ hk
    simp only [e, if_true, ei, Option.bind_some, hB, hguard k _ _ hk]
   ·have e : (n.op == (59 : Int)) = false := by simpa using h59
    simp only [e, Bool.false_eq_true, if_false]
    by_cases h54 : n.op = 54
    ·have e : (n.op == (54 : Int)) = true := by rw [h54]; rfl
     obtain ⟨B, hB⟩ := bound_ex hV hf hc (by omega) hks
     simp only [e, if_true, hB, Option.bind_some]
     refine ob (P, clash, false, false, pt) (foldG n.kids.length (fun i => ((i : Int), P, clash, false, false, pt)) _ (fun g i hi => ?_) (fun g => ?_) (by have := hks.2; omega) rfl) rfl
     ·have hx : idx n.kids (i : Int) = some n.kids[i] := by rw [idx_nat]; exact List.getElem?_eq_getElem hi
      simp only [lt_tn hi, if_true, hx, Option.bind_some, hguard _ _ _ (List.getElem_mem hi)]
      rw [w64s (by omega)]
     ·simp only [lt_fn (Nat.le_refl n.kids.length), Bool.false_eq_true, if_false]
    ·have e : (n.op == (54 : Int)) = false := by simpa using h54
     simp only [e, Bool.false_eq_true, if_false]
  obtain ⟨q, hq⟩ := with_eq hK2 (w := ⟨P, pt, clash, false, false⟩) (n := n) hP (fun hs p hp => hnm p hp _ (syms_self hs))
  have hsz : tree_Size K n = some (n.size : Int) := tree_Size_eq (by have := hks.2; omega) (by omega)
  have hg : decide ((16000 : Int) < (n.size : Int)) = false := decide_eq_false (by omega)
  simp only [hstop, Option.bind_some, Bool.false_eq_true, if_false, hq, Bool.not_false, if_true, hself, hsz, hg]
  exact ⟨_, rfl, pt, rfl, hpt⟩
theorem walk_eq {K : Nat} {P : List Api_PairA} {n : NodeA} (hf : Fine n) (hb : n.size ≤ 16000) (hnm : NM P n) (hP : PK P K) (hK : 6 * n.size + 200 ≤ K) : ∃ p', subst_walker_walk K ⟨P, none, [], false, false⟩ n = some (n, ⟨P, p', [], false, false⟩) := by
 have hbb : big = 1099511627776 := rfl
 have hl : (uniL n).length ≤ 2 * n.size := by
  unfold uniL
  have := List.length_filter_le nameB (namesN n)
  rw [names_len] at this
  simp only [List.length_append, List.length_map]; omega
 obtain ⟨p', h, _⟩ := walk_ex (V := uniL n) (K := K) (P := P) (by omega) (uni_uni (by omega)) hP n K none [] hf (cov_uni n) hb hnm (by simp; omega) (by omega) ⟨⟨by omega, by omega⟩, by omega⟩
 exact ⟨p', h⟩
end Go.Proofs.YtfnfjjgphhoigaaGreat
namespace Go.Proofs.YtfnfjjgphhoigaaGreat
open Go Go.Iso Go.Proofs
set_option linter.unusedSimpArgs false
set_option linter.unusedVariables false
set_option maxRecDepth 100000
/-! ### The reference's list of symbols -/
theorem put_ex {K : Nat} (hK2 : 100 < K) {l : List NodeA} {h : NodeA} (hs : ∀ x ∈ l, Small x) (hl : l.length < K) (hb : l.length < big) :
  ∃ l', r10_put K l h = some l' ∧ (∀ x ∈ l, x ∈ l') ∧ h ∈ l' ∧ (∀ x ∈ l', x ∈ l ∨ x = h) ∧ l'.length ≤ l.length + 1 := by
 have hbb : big = 1099511627776 := rfl
 unfold r10_put
 refine ex_loop l.length (fun i s => ∃ b acc, s = (b, (i : Int), acc) ∧ (∀ x ∈ l.take i, x ∈ acc) ∧ (b = true → h ∈ acc) ∧ (∀ x ∈ acc, x ∈ l ∨ x = h) ∧ acc.length ≤ i + (if b then 1 else 0))
  (fun o => (o = .out l ∧ h ∈ l) ∨ ∃ b acc, o = .go (b, acc) ∧ (∀ x ∈ l, x ∈ acc) ∧ (b = true → h ∈ acc) ∧ (∀ x ∈ acc, x ∈ l ∨ x = h) ∧ acc.length ≤ l.length + (if b then 1 else 0)) ⟨false, [], rfl, by simp, (by intro h; cases h), (by intro x hx; cases hx), by simp⟩ hl (fun g i s hi hj hg => ?_) (fun g s hj => ?_) (fun o ho => ?_)
 ·obtain ⟨b, acc, rfl, h1, h2, h3, h4⟩ := hj
  have hx : idx l (i : Int) = some l[i] := by rw [idx_nat]; exact List.getElem?_eq_getElem hi
  have hm := List.getElem_mem hi
  obtain ⟨q1, q2⟩ := hs _ hm
  obtain ⟨z, hz, he⟩ := r08_cmp_ex (K := K) hK2 l[i] h K (.inl q1) (by omega) (by omega) (by omega)
  have hc : r08_Compare K l[i] h = some z := hz
  simp only [lt_tn hi, if_true, hx, Option.bind_some, hc]
  cases h0 : (z == (0 : Int)) with
  | true =>
   simp only [if_true, outM_eq, Option.bind_some, Out.fin_out]
   refine ⟨_, rfl, .inl ⟨rfl, ?_⟩⟩
   have := he.1 (by simpa using h0)
   rw [← this]; exact hm
  | false =>
   simp only [Bool.false_eq_true, if_false]
   have hgo : ∀ (b' : Bool) (acc' : List NodeA), (∀ x ∈ l.take i, x ∈ acc') → (b' = true → h ∈ acc') → (∀ x ∈ acc', x ∈ l ∨ x = h) → acc'.length ≤ i + (if b' then 1 else 0) →
     ∃ o, (((appO 104 acc' [l[i]]).bind fun l21 => some (.go (b', l21)) : Option (Out (Bool × List NodeA) (Out (Bool × List NodeA) (List NodeA)))).bind (Out.fin fun (v6_0, v6_1) => g (v6_0, IntKind.wrap .i64 ((i : Int) + (1 : Int)), v6_1))) = some o ∧ ((o = .out l ∧ h ∈ l) ∨ ∃ b acc, o = .go (b, acc) ∧ (∀ x ∈ l, x ∈ acc) ∧ (b = true → h ∈ acc) ∧ (∀ x ∈ acc, x ∈ l ∨ x = h) ∧ acc.length ≤ l.length + (if b then 1 else 0)) := by
    intro b' acc' k1 k2 k3 k4
    have hle : acc'.length ≤ big := by
     have : (if b' = true then 1 else 0) ≤ 1 := by split <;> omega
     omega
    rw [app_node hle, Option.bind_some, Option.bind_some, Out.fin_go]
    simp only
    rw [w64s (by omega)]
    refine hg _ ⟨b', acc' ++ [l[i]], rfl, fun x hx => ?_, fun hb => List.mem_append_left _ (k2 hb), fun x hx => ?_, ?_⟩
    ·rw [← set_take hi, List.mem_append, List.mem_singleton] at hx
     rcases hx with hx | rfl
     ·exact List.mem_append_left _ (k1 x hx)
     ·exact List.mem_append_right _ (List.mem_singleton.2 rfl)
    ·rw [List.mem_append, List.mem_singleton] at hx
     rcases hx with hx | rfl
     ·exact k3 x hx
     ·exact .inl hm
    ·rw [List.length_append, List.length_singleton]; omega
   by_cases hz0 : 0 < z
   ·rw [decide_eq_true hz0]
    simp only [if_true, Option.bind_some]
    cases b with
    | true =>
     simp only [Bool.not_true, Bool.false_eq_true, if_false, Option.bind_some]
     exact hgo true acc h1 h2 h3 h4
    | false =>
     have hle : acc.length ≤ big := by simp at h4; omega
     simp only [Bool.not_false, if_true, app_node hle, Option.bind_some]
     refine hgo true (acc ++ [h]) (fun x hx => List.mem_append_left _ (h1 x hx)) (fun _ => List.mem_append_right _ (List.mem_singleton.2 rfl)) (fun x hx => ?_) ?_
     ·rw [List.mem_append, List.mem_singleton] at hx
      rcases hx with hx | rfl
      ·exact h3 x hx
      ·exact .inr rfl
     ·simp at h4; simp; omega
   ·rw [decide_eq_false hz0]
    simp only [Bool.false_eq_true, if_false, Option.bind_some]
    exact hgo b acc h1 h2 h3 h4
 ·obtain ⟨b, acc, rfl, h1, h2, h3, h4⟩ := hj
  rw [List.take_length] at h1
  simp only [lt_fn (Nat.le_refl l.length), Bool.false_eq_true, if_false]
  exact ⟨_, rfl, .inr ⟨b, acc, rfl, h1, h2, h3, h4⟩⟩
 ·rcases ho with ⟨rfl, hm⟩ | ⟨b, acc, rfl, h1, h2, h3, h4⟩
  ·exact ⟨l, rfl, fun x hx => hx, hm, fun x hx => .inl hx, by omega⟩
  ·rw [Out.fin_go]
   cases b with
   | true =>
    simp only [Bool.not_true, Bool.false_eq_true, if_false]
    exact ⟨acc, rfl, h1, h2 rfl, h3, by simpa using h4⟩
   | false =>
    simp only [if_neg (show ¬ (false = true) by simp)] at h4
    simp only [Bool.not_false, if_true, app_node (show acc.length ≤ big by omega), Option.bind_some]
    refine ⟨_, rfl, fun x hx => List.mem_append_left _ (h1 x hx), List.mem_append_right _ (List.mem_singleton.2 rfl), fun x hx => ?_, by simp; omega⟩
    rw [List.mem_append, List.mem_singleton] at hx
    rcases hx with hx | rfl
    ·exact h3 x hx
    ·exact .inr rfl
theorem head_fine {n : NodeA} (hf : Fine n) (hs : symB n.op = true) : headR n = headS n := by
 rw [headR_eq]
 unfold headS
 congr 1
 rcases symB_iff.1 hs with h | h | h | h | h | h | h
 ·rw [h]; simp
 ·rw [h]; simp
 all_goals
  have := fine_len hf
  have e : sortsC n = [] := by unfold sortsC; rw [h]; rfl
  rw [e] at this
  simp only [List.length_nil] at this
  rw [this]; simp
theorem heads_iter {K : Nat} (hK2 : 100 < K) : ∀ (n : NodeA) (j : Nat) (l : List NodeA), Fine n → (∀ x ∈ l, Small x) → n.size ≤ j → n.size + l.length < K → n.size + l.length ≤ big →
  ∃ l', iter j (fun self q => r10_heads_body K self q.1 q.2) (l, n) = some l' ∧ (∀ x ∈ l, x ∈ l') ∧ (∀ x ∈ symsN n, x ∈ l') ∧ (∀ x ∈ l', Small x) ∧ l'.length ≤ l.length + n.size := by
 have hbb : big = 1099511627776 := rfl
 refine NodeA.ind fun n ih => ?_
 intro j l hf hs hj hK hb
 have hp := n.size_pos
 have hkl := n.kids_lt
 obtain ⟨j, rfl⟩ : ∃ i, j = i + 1 := ⟨j - 1, by omega⟩
 rw [iter_succ]
 have ih' : ∀ k ∈ n.kids, ∀ l : List NodeA, (∀ x ∈ l, Small x) → k.size + l.length < K → k.size + l.length ≤ big → ∃ l', iter j (fun self q => r10_heads_body K self q.1 q.2) (l, k) = some l' ∧ (∀ x ∈ l, x ∈ l') ∧ (∀ x ∈ symsN k, x ∈ l') ∧ (∀ x ∈ l', Small x) ∧ l'.length ≤ l.length + k.size := fun k hk l h1 h2 h3 => ih k hk j l (fine_kid hf hk) h1 (by have := NodeA.size_lt hk; omega) h2 h3
 generalize iter j (fun self q => r10_heads_body K self q.1 q.2) = S at ih' ⊢
 show ∃ l', r10_heads_body K S l n = some l' ∧ _
 unfold r10_heads_body
 rw [r10_Symbol_eq, r10_Head_eq]
 simp only [Option.bind_some]
 have first : ∃ l1, ((if symB n.op then (r10_put K l (headR n)).bind fun r8 => some r8 else some l) : Option (List NodeA)) = some l1 ∧ (∀ x ∈ l, x ∈ l1) ∧ (symB n.op = true → headS n ∈ l1) ∧ (∀ x ∈ l1, Small x) ∧ l1.length ≤ l.length + 1 := by
  cases hsy : symB n.op with
  | false => exact ⟨l, rfl, fun x hx => hx, (fun h => by cases h), hs, by omega⟩
  | true =>
   obtain ⟨l', h1, h2, h3, h4, h5⟩ := put_ex (K := K) hK2 (l := l) (h := headR n) hs (by omega) (by omega)
   simp only [if_true, h1, Option.bind_some]
   refine ⟨l', rfl, h2, fun _ => by rw [← head_fine hf hsy]; exact h3, fun x hx => ?_, h5⟩
   rcases h4 x hx with h | rfl
   ·exact hs x h
   ·exact headR_few
 obtain ⟨l1, h1, h2, h3, h4, h5⟩ := first
 refine ex_ob ⟨l1, h1, ?_⟩
 have hsz : n.size = 1 + (n.kids.map NodeA.size).sum := by cases n with | mk o m r ks => rw [NodeA.size_mk]; rfl
 refine ex_loop n.kids.length (fun i s => ∃ a : List NodeA, s = (a, (i : Int)) ∧ (∀ x ∈ l1, x ∈ a) ∧ (∀ k ∈ n.kids.take i, ∀ x ∈ symsN k, x ∈ a) ∧ (∀ x ∈ a, Small x) ∧ a.length ≤ l.length + 1 + ((n.kids.take i).map NodeA.size).sum)
  (fun o => (∀ x ∈ l1, x ∈ o) ∧ (∀ k ∈ n.kids, ∀ x ∈ symsN k, x ∈ o) ∧ (∀ x ∈ o, Small x) ∧ o.length ≤ l.length + n.size) ⟨l1, rfl, fun x hx => hx, (by simp), h4, by simpa using h5⟩ (by omega) (fun g i s hi hj hg => ?_) (fun g s hj => ?_) (fun o ho => ?_)
 ·obtain ⟨a, rfl, k1, k2, k3, k4⟩ := hj
  have hx : n.kids[i]? = some n.kids[i] := List.getElem?_eq_getElem hi
  have hm := List.getElem_mem hi
  have e1 := sum_take (f := NodeA.size) hx
  have e2 := sum_take_le (l := n.kids) (f := NodeA.size) (i := i + 1)
  obtain ⟨a', q1, q2, q3, q4, q5⟩ := ih' _ hm a k3 (by omega) (by omega)
  simp only [lt_tn hi, if_true, idx_nat, hx, Option.bind_some, q1]
  rw [w64s (by omega)]
  refine hg _ ⟨a', rfl, fun x hx => q2 x (k1 x hx), fun k hk x hx => ?_, q4, by omega⟩
  rw [← set_take hi, List.mem_append, List.mem_singleton] at hk
  rcases hk with hk | rfl
  ·exact q2 x (k2 k hk x hx)
  ·exact q3 x hx
 ·obtain ⟨a, rfl, k1, k2, k3, k4⟩ := hj
  rw [List.take_length] at k2 k4
  simp only [lt_fn (Nat.le_refl n.kids.length), Bool.false_eq_true, if_false]
  exact ⟨a, rfl, k1, k2, k3, by omega⟩
 ·obtain ⟨k1, k2, k3, k4⟩ := ho
  refine ⟨o, rfl, fun x hx => k1 x (h2 x hx), fun x hx => ?_, k3, k4⟩
  rw [symsN_eq, List.mem_append] at hx
  rcases hx with hx | hx
  ·split at hx
   ·next h => rw [List.mem_singleton] at hx; subst hx; exact k1 _ (h3 h)
   ·cases hx
  ·obtain ⟨m, hm, hx⟩ := List.mem_flatten.1 hx
   obtain ⟨k, hk, rfl⟩ := List.mem_map.1 hm
   exact k2 k hk x hx
theorem r10_check_eq {K : Nat} {n : NodeA} (hK : 12 < K) (hK2 : 2 * n.size ≤ K) (hb : n.size ≤ big) (hw : n.words) : r10_check K n = some (rootS n) := by
 unfold r10_check rootS
 simp only [r08_Sort_eq, Option.bind_some, orO]
 cases (sortS n.op == 0 || sortS n.op == 4) with
 | true => rfl
 | false => simp only [Bool.false_eq_true, if_false, Option.bind_some, Out.fin_go, r08_Check_eq hK hK2 hb hw]
theorem Symbols_ex {K : Nat} {n : NodeA} (hK2 : 100 < K) (hK : 2 * n.size ≤ K) (hb : n.size ≤ big) (hw : n.words) : ∃ l, r10_Symbols K n = some (l, rootS n) ∧ (rootS n = 0 → (∀ x ∈ symsN n, x ∈ l) ∧ (∀ x ∈ l, Small x) ∧ l.length ≤ n.size) := by
 unfold r10_Symbols
 rw [r10_check_eq (by omega) hK hb hw, Option.bind_some]
 by_cases h0 : rootS n = 0
 ·have hf : Fine n := ⟨_, _, _, (rootS_ok h0).1⟩
  have hp := n.size_pos
  obtain ⟨l, h1, _, h3, h4, h5⟩ := heads_iter (K := K) hK2 n K [] hf (by simp) (by omega) (by simp; omega) (by simpa using hb)
  have e : r10_heads K [] n = some l := h1
  rw [h0]
  simp only [bne_self_eq_false, Bool.false_eq_true, if_false, e, Option.bind_some]
  exact ⟨l, rfl, fun _ => ⟨h3, h4, by simpa using h5⟩⟩
 ·have e : (rootS n != 0) = true := by simpa using h0
  rw [e]
  exact ⟨[], rfl, fun h => absurd h h0⟩
end Go.Proofs.YtfnfjjgphhoigaaGreat
namespace Go.Proofs.YtfnfjjgphhoigaaGreat
open Go Go.Iso Go.Proofs
set_option linter.unusedSimpArgs false
set_option linter.unusedVariables false
set_option maxRecDepth 100000
/-! ### Pairs -/
def TK (K : Nat) (n : NodeA) : Prop := 2 * n.size ≤ K ∧ n.size ≤ big ∧ n.words
structure PrK (K : Nat) (p : Api_PairA) : Prop where
 what : TK K p.what
 with_ : TK K p.with_
 rates : ∀ r ∈ p.rates, TK K r
 sum : 2 * (p.rates.map NodeA.size).sum + 4 ≤ K ∧ (p.rates.map NodeA.size).sum + 2 ≤ 1000000000
theorem zero_num {r : RatA} (h1 : r.neg = false) (h2 : r.num.length = 0) (h3 : r.den.length = 0) : r = RatA.mk false [] [] := by
 obtain ⟨a, b, c⟩ := r
 simp only [List.length_eq_zero_iff] at h1 h2 h3
 subst h1 h2 h3; rfl
theorem isSymbol_ex {K : Nat} (hK2 : 100 < K) {n : NodeA} (hn : TK K n) : ∃ b, r11_IsSymbol K n = some b ∧ (b = true → symB n.op = true ∧ nameB n.name = true ∧ headS n = n) := by
 obtain ⟨hk, hb, hw⟩ := hn
 unfold r11_IsSymbol
 rw [r10_Symbol_eq, r08_Name_eq (by omega)]
 simp only [Option.bind_some]
 cases hs : symB n.op with
 | false => exact ⟨false, rfl, fun h => by cases h⟩
 | true =>
  cases hm : nameB n.name with
  | false => exact ⟨false, rfl, fun h => by cases h⟩
  | true =>
   simp only [Bool.not_true, Bool.false_eq_true, if_false]
   cases hneg : n.num.neg with
   | true => exact ⟨false, rfl, fun h => by cases h⟩
   | false =>
    simp only [Bool.false_eq_true, if_false]
    by_cases h1 : 0 < n.num.num.length
    ·have e : decide ((0 : Int) < (n.num.num.length : Int)) = true := decide_eq_true (by omega)
     rw [e]; exact ⟨false, rfl, fun h => by cases h⟩
    have e1 : decide ((0 : Int) < (n.num.num.length : Int)) = false := decide_eq_false (by omega)
    simp only [e1, Bool.false_eq_true, if_false]
    by_cases h2 : 0 < n.num.den.length
    ·have e : decide ((0 : Int) < (n.num.den.length : Int)) = true := decide_eq_true (by omega)
     rw [e]; exact ⟨false, rfl, fun h => by cases h⟩
    have e2 : decide ((0 : Int) < (n.num.den.length : Int)) = false := decide_eq_false (by omega)
    simp only [e2, Option.bind_some, Bool.false_eq_true, if_false, Out.fin_go]
    have hz := zero_num hneg (by omega) (by omega)
    by_cases h0 : n.kids.length = 0
    ·have e : ((n.kids.length : Int) == (0 : Int)) = true := int_eq0 h0
     rw [e]
     refine ⟨true, rfl, fun _ => ⟨by trivial, by trivial, ?_⟩⟩
     have hks : n.kids = [] := List.eq_nil_of_length_eq_zero h0
     unfold headS
     rw [hks]
     simp only [List.length_nil, Nat.lt_irrefl, decide_false, Bool.and_false, Bool.false_eq_true, if_false]
     exact node_ext rfl rfl (by rw [hz]; rfl) (by rw [hz]; rfl) (by rw [hz]; rfl) (by rw [hks]; rfl)
    ·have e : ((n.kids.length : Int) == (0 : Int)) = false := int_ne0 h0
     obtain ⟨k, hk1, hk2, hk3⟩ := kid0 (n := n) (by omega)
     have hks := NodeA.size_lt hk1
     obtain ⟨c, hc, he⟩ := r08_Equal_ex (K := K) hK2 (a := k) (b := dotN) (.inr fewN_leaf) (by omega) (by omega)
     simp only [e, Bool.false_eq_true, if_false, hk2, Option.bind_some, hc]
     have good : (n.op = 10 ∨ n.op = 37) → n.kids.length = 1 → c = true → headS n = n := by
      intro ho hl hcc
      have hkk : n.kids = [dotN] := by
       cases hkids : n.kids with
       | nil => rw [hkids] at hl; cases hl
       | cons a t =>
        rw [hkids] at hl hk3
        have ht : t = [] := by simpa using hl
        have ha : a = k := by simpa using hk3
        rw [ht, ha, he.1 hcc]
      unfold headS
      rw [hkk]
      have hoo : (n.op == 10 || n.op == 37) = true := by rcases ho with h | h <;> rw [h] <;> rfl
      rw [hoo]
      exact node_ext rfl rfl (by rw [hz]; rfl) (by rw [hz]; rfl) (by rw [hz]; rfl) hkk.symm
     by_cases hl : n.kids.length = 1
     ·have e3 : ((n.kids.length : Int) == (1 : Int)) = true := by rw [hl]; rfl
      rw [e3]
      simp only [if_true]
      cases h10 : (n.op == (10 : Int)) with
      | true => exact ⟨c, rfl, fun h => ⟨by trivial, by trivial, good (.inl (by simpa using h10)) hl h⟩⟩
      | false =>
       cases h37 : (n.op == (37 : Int)) with
       | true => exact ⟨c, rfl, fun h => ⟨by trivial, by trivial, good (.inr (by simpa using h37)) hl h⟩⟩
       | false => exact ⟨false, rfl, fun h => by cases h⟩
     ·have e3 : ((n.kids.length : Int) == (1 : Int)) = false := by rw [beq_eq_false_iff_ne]; omega
      rw [e3]; exact ⟨false, rfl, fun h => by cases h⟩
theorem head_facts {n : NodeA} (h : headS n = n) : FewN n ∧ n.kids.length ≤ 1 := by
 refine ⟨h ▸ headS_few.1, ?_⟩
 rw [← h]
 unfold headS
 rw [NodeA.kids_mk]
 split <;> simp
/-! ### Equations -/
abbrev trueN : NodeA := NodeA.mk 20 ⟨#[]⟩ (RatA.mk false [] []) []
def flowN (l : List NodeA) : NodeA := NodeA.mk 54 ⟨#[]⟩ (RatA.mk false [] []) (l ++ [trueN])
def cnt (l : List NodeA) : Nat := (l.filter fun x => x.op == 55).length
theorem cnt_le {l : List NodeA} : cnt l ≤ l.length := List.length_filter_le _ _
theorem cnt_take {l : List NodeA} {i : Nat} (h : i < l.length) : cnt (l.take (i + 1)) = cnt (l.take i) + (if l[i].op == 55 then 1 else 0) := by
 unfold cnt
 rw [← set_take h, List.filter_append, List.length_append]
 congr 1
 rw [List.filter_cons]
 split <;> rfl
theorem flowN_size {l : List NodeA} : (flowN l).size = (l.map NodeA.size).sum + 2 := by
 unfold flowN; rw [NodeA.size_mk]; simp [NodeA.size_mk]; omega
theorem len_sum {l : List NodeA} : l.length ≤ (l.map NodeA.size).sum := sum_ge_len
theorem flowN_words {l : List NodeA} (h : ∀ x ∈ l, x.words) : (flowN l).words := by
 unfold flowN
 rw [NodeA.words_mk]
 have hz : RatA.words (RatA.mk false [] []) := ⟨fun x hx => (by cases hx), fun x hx => (by cases hx)⟩
 refine ⟨hz, fun k hk => ?_⟩
 rw [List.mem_append, List.mem_singleton] at hk
 rcases hk with hk | rfl
 ·exact h k hk
 ·rw [NodeA.words_mk]; exact ⟨hz, fun k hk => by cases hk⟩
theorem r17_flow_eq {K : Nat} {l : List NodeA} (hl : l.length ≤ 1000000000) : r17_flow K l = some (flowN l) := by
 unfold r17_flow
 have h1 : makO 104 (l.length : Int) (NodeA.mk (0 : Int) (⟨#[]⟩ : ByteArray) (RatA.mk false [] []) []) = some (List.replicate l.length zN) := by
  unfold makO; rw [if_pos ⟨by omega, by rw [Int.toNat_natCast]; omega⟩, Int.toNat_natCast]
 have h2 : copyO (List.replicate l.length zN) l = some l := by
  unfold copyO; rw [if_pos (by simp)]; simp
 rw [h1, Option.bind_some, h2, Option.bind_some, app_node (by unfold big; omega)]; rfl
theorem subst_flow_eq {K : Nat} {l : List NodeA} (hl : l.length ≤ 1000000000) (hne : l ≠ []) : subst_flow K l = some (flowN l) := by
 unfold subst_flow
 have h1 : must (!l.isEmpty) = some () := by
  cases l with
  | nil => exact absurd rfl hne
  | cons a t => rfl
 have h2 : appO 104 [] l = some l := by unfold appO; rw [if_pos (by simp; omega)]; rfl
 rw [h1, Option.bind_some, h2, Option.bind_some, app_node (by unfold big; omega)]; rfl
theorem occ_flow {o : Int} {l : List NodeA} (h1 : o ≠ 54) (h2 : o ≠ 20) : occB o (flowN l) = l.any (occB o) := by
 unfold flowN
 rw [occB_eq, NodeA.op_mk, NodeA.kids_mk, List.any_append]
 have e : ((54 : Int) == o) = false := by rw [beq_eq_false_iff_ne]; exact Ne.symm h1
 have e2 : occB o trueN = false := by
  rw [occB_eq]
  have : ((20 : Int) == o) = false := by rw [beq_eq_false_iff_ne]; exact Ne.symm h2
  rw [NodeA.op_mk, this]; rfl
 rw [e]; simp [e2]
theorem flow_cnt {l : List NodeA} (h : checkS (flowN l) 3 = 0) : l.length ≤ cnt l + 1 := by
 have hok : okS (flowN l) false false false = true := by
  unfold checkS at h
  revert h
  cases (decide ((3 : Int) < 1) || decide ((3 : Int) < 3)) <;> cases (decide (((flowN l).size : Int) ≤ 4000) && decide (((flowN l).lev : Int) ≤ 60)) <;> cases (sortS (flowN l).op != 3) <;> cases okS (flowN l) false false false <;> simp
 rw [okS_eq] at hok
 simp only [Bool.and_eq_true] at hok
 have hst := hok.2.2.1
 have e54 : (flowN l).op = 54 := rfl
 have eks : (flowN l).kids = l ++ [trueN] := rfl
 unfold stC at hst
 rw [e54, eks] at hst
 have hst : (decide (2 ≤ (l ++ [trueN]).length) && (List.range ((l ++ [trueN]).length - 1)).all (flowK (l ++ [trueN]))) = true := hst
 simp only [Bool.and_eq_true, decide_eq_true_eq, List.all_eq_true, List.mem_range, List.length_append, List.length_singleton] at hst
 obtain ⟨h2, hk⟩ := hst
 have key : ∀ i (hi : i < l.length), i + 1 < l.length → l[i].op = 55 := by
  intro i hi hi2
  have := hk i (by omega)
  unfold flowK at this
  rw [List.getElem?_append_left hi, List.getElem?_eq_getElem hi] at this
  simp only [Option.all_some, Bool.and_eq_true, Bool.not_eq_true', List.length_append, List.length_singleton] at this
  have h := this.1
  cases h55 : (l[i].op != 55) with
  | false => simpa using h55
  | true =>
   rw [h55, Bool.true_and] at h
   have : ((i : Int) != ((l.length + 1 - 2 : Nat) : Int)) = true := by
    rw [bne_iff_ne]; omega
   rw [this, Bool.or_true] at h; cases h
 have hcount : cnt (l.take (l.length - 1)) = l.length - 1 := by
  unfold cnt
  have : (l.take (l.length - 1)).filter (fun x => x.op == 55) = l.take (l.length - 1) := by
   rw [List.filter_eq_self]
   intro x hx
   obtain ⟨i, hi, rfl⟩ := List.mem_iff_getElem.1 hx
   rw [List.length_take] at hi
   rw [List.getElem_take, key i (by omega) (by omega)]; rfl
  rw [this, List.length_take]; omega
 have hmono : cnt (l.take (l.length - 1)) ≤ cnt l := by
  unfold cnt
  exact (List.Sublist.filter _ (List.take_sublist _ _)).length_le
 omega
def RatesOk (l : List NodeA) : Prop := cnt l ≤ 8 ∧ l.any (occB 13) = false ∧ (l = [] ∨ checkS (flowN l) 3 = 0)
theorem rates_ex {K : Nat} (hK2 : 100 < K) {l : List NodeA} (hl : ∀ r ∈ l, TK K r) (hs : 2 * (l.map NodeA.size).sum + 4 ≤ K ∧ (l.map NodeA.size).sum + 2 ≤ 1000000000) : ∃ b, r17_rates K l = some b ∧ (b = true → RatesOk l) := by
 have hbb : big = 1099511627776 := rfl
 have hls := len_sum (l := l)
 unfold r17_rates
 refine ex_loop l.length (fun i s => s = ((cnt (l.take i) : Int), (i : Int)) ∧ (l.take i).any (occB 13) = false) (fun o => o = .out false ∨ (o = .go (cnt l : Int) ∧ l.any (occB 13) = false)) ⟨rfl, rfl⟩ (by omega) (fun g i s hi hj hg => ?_) (fun g s hj => ?_) (fun o ho => ?_)
 ·obtain ⟨rfl, ho⟩ := hj
  have hx : l[i]? = some l[i] := List.getElem?_eq_getElem hi
  have hm := List.getElem_mem hi
  have hc := cnt_take hi
  have hcl := cnt_le (l := l.take i)
  rw [List.length_take] at hcl
  obtain ⟨t1, t2, _⟩ := hl _ hm
  have hocc : r10_Occurs K l[i] 13 = some (occB 13 l[i]) := occurs_iter _ K (by omega) (by omega) t2
  simp only [lt_tn hi, if_true, idx_nat, hx, Option.bind_some, hocc]
  have hcnt : ((if (l[i].op == (55 : Int)) then some (IntKind.wrap .i64 ((cnt (l.take i) : Int) + (1 : Int))) else some (cnt (l.take i) : Int)) : Option Int) = some (cnt (l.take (i + 1)) : Int) := by
   rw [hc]
   cases (l[i].op == (55 : Int)) with
   | true => simp only [if_true]; rw [w64s (by omega)]
   | false => simp
  rw [hcnt, Option.bind_some]
  cases h13 : occB 13 l[i] with
  | true => simp only [if_true, outM_eq, Option.bind_some, Out.fin_out]; exact ⟨_, rfl, .inl rfl⟩
  | false =>
   simp only [Bool.false_eq_true, if_false, Option.bind_some, Out.fin_go]
   rw [w64s (by omega)]
   refine hg _ ⟨rfl, ?_⟩
   rw [← set_take hi, List.any_append, ho]; simp [h13]
 ·obtain ⟨rfl, ho⟩ := hj
  rw [List.take_length] at ho ⊢
  simp only [lt_fn (Nat.le_refl l.length), Bool.false_eq_true, if_false]
  exact ⟨_, rfl, .inr ⟨rfl, ho⟩⟩
 ·rcases ho with rfl | ⟨rfl, ho⟩
  ·exact ⟨false, rfl, fun h => by cases h⟩
  ·rw [Out.fin_go]
   by_cases h8 : cnt l ≤ 8
   ·have e : decide ((cnt l : Int) ≤ (8 : Int)) = true := decide_eq_true (by omega)
    rw [e]
    simp only [if_true]
    by_cases h0 : l.length = 0
    ·rw [int_eq0 h0]
     exact ⟨true, rfl, fun _ => ⟨h8, ho, .inl (List.eq_nil_of_length_eq_zero h0)⟩⟩
    ·rw [int_ne0 h0]
     have hfs := flowN_size (l := l)
     simp only [Bool.false_eq_true, if_false, r17_flow_eq (K := K) (l := l) (by omega), Option.bind_some, r08_Check_eq (K := K) (n := flowN l) (s := 3) (by omega) (by omega) (by omega) (flowN_words fun x hx => (hl x hx).2.2)]
     exact ⟨_, rfl, fun h => ⟨h8, ho, .inr (by simpa using h)⟩⟩
   ·have e : decide ((cnt l : Int) ≤ (8 : Int)) = false := decide_eq_false (by omega)
    rw [e]; exact ⟨false, rfl, fun h => by cases h⟩
/-! ### Pairs that fit -/
theorem uses1 {K : Nat} (hK2 : 100 < K) {n : NodeA} {a : Int} (hn : n.size ≤ K) (hb : n.size ≤ big) : static_Uses K n [a] = some (occB a n) := by
 have := uses_iter (K := K) (l := [a]) (by simp; omega) (by show 1 ≤ 1099511627776; omega) n K hn hn hb
 refine this.trans ?_
 simp only [List.any_cons, List.any_nil, Bool.or_false]
theorem uses2 {K : Nat} (hK2 : 100 < K) {n : NodeA} {a b : Int} (hn : n.size ≤ K) (hb : n.size ≤ big) : static_Uses K n [a, b] = some (occB a n || occB b n) := by
 have := uses_iter (K := K) (l := [a, b]) (by simp; omega) (by show 2 ≤ 1099511627776; omega) n K hn hn hb
 refine this.trans ?_
 simp only [List.any_cons, List.any_nil, Bool.or_false]
theorem valid_rest {K : Nat} (hK2 : 100 < K) {p : Api_PairA} (hp : PrK K p) (h1 : symB p.what.op = true) (h2 : nameB p.what.name = true) (h3 : headS p.what = p.what) (h56 : p.what.op = 56) (hz : p.with_ = zN) (hr : RatesOk p.rates) : subst_valid K p = some true := by
 have hbb : big = 1099511627776 := rfl
 have hls := len_sum (l := p.rates)
 obtain ⟨hfew, hk1⟩ := head_facts h3
 obtain ⟨r8, r13, rc⟩ := hr
 have hs := hp.sum
 unfold subst_valid static_SymbolOf
 have e1 : decide ((1 : Int) < (p.what.kids.length : Int)) = false := decide_eq_false (by omega)
 have e56 : (p.what.op == (56 : Int)) = true := by rw [h56]; rfl
 have hwz : tree_Equal K p.with_ (NodeA.mk (0 : Int) (⟨#[]⟩ : ByteArray) (RatA.mk false [] []) []) = some true := by
  rw [hz]; exact tree_Equal_yes hK2 fewN_leaf (by simp [NodeA.size_mk]; omega) (by simp [NodeA.size_mk, big])
 simp only [symbol_eq, h1, if_true, h3, Option.bind_some, Bool.not_true, Bool.false_eq_true, if_false, tree_Name_eq (show 12 < K by omega), h2, e1, tree_Equal_yes hK2 hfew (show p.what.size ≤ K by have := hp.what.1; omega) hp.what.2.1, Out.fin_go, e56, hwz]
 have hlen9 : p.rates.length ≤ 9 := by
  rcases rc with h | h
  ·rw [h]; simp
  ·have := flow_cnt h; omega
 have e9 : decide ((9 : Int) < (p.rates.length : Int)) = false := decide_eq_false (by omega)
 simp only [e9, Option.bind_some, Bool.false_eq_true, if_false, Out.fin_go]
 by_cases h0 : p.rates.length = 0
 ·rw [int_eq0 h0]; rfl
 ·rw [int_ne0 h0]
  simp only [Bool.false_eq_true, if_false]
  refine ob (cnt p.rates : Int) (foldG p.rates.length (fun i => ((cnt (p.rates.take i) : Int), (i : Int))) _ (fun g i hi => ?_) (fun g => ?_) (by omega) rfl) ?_
  ·have hx : p.rates[i]? = some p.rates[i] := List.getElem?_eq_getElem hi
   have hc := cnt_take hi
   have hcl := cnt_le (l := p.rates.take i)
   rw [List.length_take] at hcl
   have hcnt : ((if (p.rates[i].op == (55 : Int)) then some (IntKind.wrap .i64 ((cnt (p.rates.take i) : Int) + (1 : Int))) else some (cnt (p.rates.take i) : Int)) : Option Int) = some (cnt (p.rates.take (i + 1)) : Int) := by
    rw [hc]
    cases (p.rates[i].op == (55 : Int)) with
    | true => simp only [if_true]; rw [w64s (by omega)]
    | false => simp
   simp only [lt_tn hi, if_true, idx_nat, hx, Option.bind_some, hcnt]
   rw [w64s (by omega)]
  ·simp only [lt_fn (Nat.le_refl p.rates.length), Bool.false_eq_true, if_false, List.take_length]
  ·have e8 : decide ((cnt p.rates : Int) ≤ (8 : Int)) = true := decide_eq_true (by omega)
   have hne : p.rates ≠ [] := fun h => h0 (by rw [h]; rfl)
   have hck : checkS (flowN p.rates) 3 = 0 := rc.resolve_left hne
   have hfs := flowN_size (l := p.rates)
   simp only [e8, if_true, subst_flow_eq (K := K) (l := p.rates) (by omega) hne, Option.bind_some, tree_Check_eq (K := K) (n := flowN p.rates) (s := 3) (by omega) (by omega) (by omega), hck, beq_self_eq_true, uses1 hK2 (n := flowN p.rates) (a := 13) (by omega) (by omega), occ_flow (show (13 : Int) ≠ 54 by omega) (by omega), r13, Bool.not_false]
theorem valid_plain {K : Nat} (hK2 : 100 < K) {p : Api_PairA} (hp : PrK K p) (h1 : symB p.what.op = true) (h2 : nameB p.what.name = true) (h3 : headS p.what = p.what) (h56 : p.what.op ≠ 56) (hr : p.rates.length = 0) {s : Int} (hs : s = if p.what.op = 10 ∨ p.what.op = 11 then 1 else if p.what.op = 37 ∨ p.what.op = 38 then 2 else 3)
  (hc : checkS p.with_ s = 0) (h61 : p.what.op = 61 → occB 60 p.with_ = false ∧ occB 62 p.with_ = false) (h13 : p.what.kids.length = 0 → occB 13 p.with_ = false) : subst_valid K p = some true := by
 obtain ⟨hfew, hk1⟩ := head_facts h3
 obtain ⟨w1, w2, w3⟩ := hp.with_
 unfold subst_valid static_SymbolOf
 have e1 : decide ((1 : Int) < (p.what.kids.length : Int)) = false := decide_eq_false (by omega)
 have e56 : (p.what.op == (56 : Int)) = false := by simpa using h56
 have e0 : decide ((0 : Int) < (p.rates.length : Int)) = false := decide_eq_false (by omega)
 simp only [symbol_eq, h1, if_true, h3, Option.bind_some, Bool.not_true, Bool.false_eq_true, if_false, tree_Name_eq (show 12 < K by omega), h2, e1, tree_Equal_yes hK2 hfew (show p.what.size ≤ K by have := hp.what.1; omega) hp.what.2.1, Out.fin_go, e56, e0]
 refine ob s ?_ ?_
 ·rw [hs]
  by_cases h10 : p.what.op = 10 ∨ p.what.op = 11
  ·rw [if_pos h10]
   rcases h10 with h | h <;> rw [h] <;> rfl
  ·rw [if_neg h10]
   have q1 : (p.what.op == (10 : Int)) = false := by rw [beq_eq_false_iff_ne]; omega
   have q2 : (p.what.op == (11 : Int)) = false := by rw [beq_eq_false_iff_ne]; omega
   by_cases h37 : p.what.op = 37 ∨ p.what.op = 38
   ·rw [if_pos h37]
    rcases h37 with h | h <;> rw [h] <;> rfl
   ·rw [if_neg h37]
    have q3 : (p.what.op == (37 : Int)) = false := by rw [beq_eq_false_iff_ne]; omega
    have q4 : (p.what.op == (38 : Int)) = false := by rw [beq_eq_false_iff_ne]; omega
    rw [q1, q2, q3, q4]; rfl
 ·rw [tree_Check_eq (by omega) w1 w2, hc]
  simp only [Option.bind_some, bne_self_eq_false, Bool.false_eq_true, if_false]
  have hg : ((if (p.what.op == (61 : Int)) then (static_Uses K p.with_ [(60 : Int), (62 : Int)]).bind fun r64 => some r64 else some false) : Option Bool) = some false := by
   by_cases h : p.what.op = 61
   ·have e : (p.what.op == (61 : Int)) = true := by rw [h]; rfl
    obtain ⟨a, b⟩ := h61 h
    rw [e, uses2 hK2 (by omega) w2, a, b]; rfl
   ·have e : (p.what.op == (61 : Int)) = false := by simpa using h
    rw [e]; rfl
  rw [hg]
  simp only [Option.bind_some, Bool.false_eq_true, if_false, Out.fin_go]
  by_cases h0 : 0 < p.what.kids.length
  ·have e : decide ((0 : Int) < (p.what.kids.length : Int)) = true := decide_eq_true (by omega)
   rw [e]; rfl
  ·have e : decide ((0 : Int) < (p.what.kids.length : Int)) = false := decide_eq_false (by omega)
   rw [e, uses1 hK2 (by omega) w2, h13 (by omega)]; rfl
theorem fits_ex {K : Nat} (hK2 : 100 < K) {p : Api_PairA} (hp : PrK K p) : ∃ b, r17_fits K p = some b ∧ (b = true → subst_valid K p = some true ∧ FewN p.what) := by
 obtain ⟨w1, w2, w3⟩ := hp.with_
 unfold r17_fits
 obtain ⟨b, hb, hi⟩ := isSymbol_ex hK2 hp.what
 rw [hb, Option.bind_some]
 cases b with
 | false => exact ⟨false, rfl, fun h => by cases h⟩
 | true =>
  obtain ⟨h1, h2, h3⟩ := hi rfl
  have hfew := (head_facts h3).1
  simp only [Bool.not_true, Bool.false_eq_true, if_false]
  by_cases h56 : p.what.op = 56
  ·have e56 : (p.what.op == (56 : Int)) = true := by rw [h56]; rfl
   rw [e56]
   simp only [if_true]
   unfold r17_none
   obtain ⟨c, hc, he⟩ := r08_Equal_ex (K := K) hK2 (a := p.with_) (b := zN) (.inr fewN_leaf) (by omega) w2
   simp only [hc, Option.bind_some]
   cases c with
   | false => exact ⟨false, rfl, fun h => by cases h⟩
   | true =>
    obtain ⟨d, hd, hr⟩ := rates_ex hK2 hp.rates hp.sum
    simp only [if_true, hd, Option.bind_some]
    exact ⟨d, rfl, fun h => ⟨valid_rest hK2 hp h1 h2 h3 h56 (he.1 rfl) (hr h), hfew⟩⟩
  ·have e56 : (p.what.op == (56 : Int)) = false := by simpa using h56
   rw [e56]
   simp only [Bool.false_eq_true, if_false]
   have hocc : ∀ o : Int, r10_Occurs K p.with_ o = some (occB o p.with_) := fun o => occurs_iter _ K (by omega) (by omega) w2
   have hchk : ∀ s : Int, r08_Check K p.with_ s = some (checkS p.with_ s) := fun s => r08_Check_eq (by omega) w1 w2 w3
   by_cases hr : 0 < p.rates.length
   ·have e : decide ((0 : Int) < (p.rates.length : Int)) = true := decide_eq_true (by omega)
    rw [e]; exact ⟨false, rfl, fun h => by cases h⟩
   have e0 : decide ((0 : Int) < (p.rates.length : Int)) = false := decide_eq_false (by omega)
   simp only [e0, Bool.false_eq_true, if_false, hocc, Option.bind_some]
   have first : ((if ((p.what.kids.length : Int) == (0 : Int)) then some (occB 13 p.with_) else some false) : Option Bool) = some (decide (p.what.kids.length = 0) && occB 13 p.with_) := by
    by_cases h : p.what.kids.length = 0
    ·rw [int_eq0 h, decide_eq_true h]; rfl
    ·rw [int_ne0 h, decide_eq_false h]; rfl
   rw [first, Option.bind_some]
   cases hd : (decide (p.what.kids.length = 0) && occB 13 p.with_) with
   | true => exact ⟨false, rfl, fun h => by cases h⟩
   | false =>
    have h13 : p.what.kids.length = 0 → occB 13 p.with_ = false := fun h => by rw [decide_eq_true h, Bool.true_and] at hd; exact hd
    simp only [Bool.false_eq_true, if_false, Option.bind_some, Out.fin_go]
    have fin := fun {s : Int} (hs : s = if p.what.op = 10 ∨ p.what.op = 11 then 1 else if p.what.op = 37 ∨ p.what.op = 38 then 2 else 3) (hc : checkS p.with_ s = 0) h61 => And.intro (valid_plain hK2 hp h1 h2 h3 h56 (by omega) hs hc h61 h13) hfew
    by_cases h10 : p.what.op = 10 ∨ p.what.op = 11
    ·have e : ((if (p.what.op == (10 : Int)) then some (p.what.op == (10 : Int)) else some (p.what.op == (11 : Int))) : Option Bool) = some true := by rcases h10 with h | h <;> rw [h] <;> rfl
     rw [e]
     simp only [Option.bind_some, if_true, hchk, outM_eq, Out.fin_out]
     exact ⟨_, rfl, fun h => fin (by rw [if_pos h10]) (by simpa using h) (fun h => by omega)⟩
    ·have e : ((if (p.what.op == (10 : Int)) then some (p.what.op == (10 : Int)) else some (p.what.op == (11 : Int))) : Option Bool) = some false := by
      have q1 : (p.what.op == (10 : Int)) = false := by rw [beq_eq_false_iff_ne]; omega
      have q2 : (p.what.op == (11 : Int)) = false := by rw [beq_eq_false_iff_ne]; omega
      rw [q1, q2]; rfl
     rw [e]
     simp only [Option.bind_some, Bool.false_eq_true, if_false]
     by_cases h37 : p.what.op = 37 ∨ p.what.op = 38
     ·have e : ((if (p.what.op == (37 : Int)) then some (p.what.op == (37 : Int)) else some (p.what.op == (38 : Int))) : Option Bool) = some true := by rcases h37 with h | h <;> rw [h] <;> rfl
      rw [e]
      simp only [Option.bind_some, if_true, hchk, outM_eq, Out.fin_out]
      exact ⟨_, rfl, fun h => fin (by rw [if_neg h10, if_pos h37]) (by simpa using h) (fun h => by omega)⟩
     ·have e : ((if (p.what.op == (37 : Int)) then some (p.what.op == (37 : Int)) else some (p.what.op == (38 : Int))) : Option Bool) = some false := by
       have q1 : (p.what.op == (37 : Int)) = false := by rw [beq_eq_false_iff_ne]; omega
       have q2 : (p.what.op == (38 : Int)) = false := by rw [beq_eq_false_iff_ne]; omega
       rw [q1, q2]; rfl
      rw [e]
      simp only [Option.bind_some, Bool.false_eq_true, if_false]
      by_cases h61 : p.what.op = 61
      ·have e : (p.what.op == (61 : Int)) = true := by rw [h61]; rfl
       rw [e]
       simp only [if_true, hchk, Option.bind_some]
       cases h0 : (checkS p.with_ 3 == (0 : Int)) with
       | false => exact ⟨false, rfl, fun h => by cases h⟩
       | true =>
        cases h60 : occB 60 p.with_ with
        | true => exact ⟨false, rfl, fun h => by cases h⟩
        | false =>
         cases h62 : occB 62 p.with_ with
         | true => exact ⟨false, rfl, fun h => by cases h⟩
         | false => exact ⟨true, rfl, fun h => fin (by rw [if_neg h10, if_neg h37]) (by simpa using h0) (fun _ => ⟨h60, h62⟩)⟩
      ·have e : (p.what.op == (61 : Int)) = false := by simpa using h61
       rw [e]
       simp only [Bool.false_eq_true, if_false, Option.bind_some, Out.fin_go, hchk]
       exact ⟨_, rfl, fun h => fin (by rw [if_neg h10, if_neg h37]) (by simpa using h) (fun h => absurd h h61)⟩
/-! ### Check -/
def GoodP (K : Nat) (P : List Api_PairA) (m : Nat) : Prop := ∀ t (h : t < P.length), t < m → (subst_valid K P[t] = some true ∧ FewN P[t].what) ∧ ∀ u (h' : u < P.length), u < t → P[u].what ≠ P[t].what
theorem r17_Check_ex {K : Nat} (hK2 : 100 < K) {P : List Api_PairA} (hP : ∀ p ∈ P, PrK K p) : ∃ e, r17_Check K P = some e ∧ (e = 0 → P.length ≤ 40 ∧ GoodP K P P.length) := by
 unfold r17_Check
 by_cases h40 : 40 < P.length
 ·have e : decide ((40 : Int) < (P.length : Int)) = true := decide_eq_true (by omega)
  rw [e]; exact ⟨2, rfl, fun h => by cases h⟩
 have e : decide ((40 : Int) < (P.length : Int)) = false := decide_eq_false (by omega)
 simp only [e, Bool.false_eq_true, if_false]
 refine ex_loop P.length (fun i s => s = (i : Int) ∧ GoodP K P i) (fun o => o = .out 3 ∨ (o = .go () ∧ GoodP K P P.length)) ⟨rfl, fun t _ h => by omega⟩ (by omega) (fun g i s hi hj hg => ?_) (fun g s hj => ?_) (fun o ho => ?_)
 ·obtain ⟨rfl, hgd⟩ := hj
  have hx : idx P (i : Int) = some P[i] := by rw [idx_nat]; exact List.getElem?_eq_getElem hi
  have hm := List.getElem_mem hi
  obtain ⟨b, hb, hf⟩ := fits_ex hK2 (hP _ hm)
  simp only [lt_tn hi, if_true, hx, Option.bind_some, hb]
  cases b with
  | false => exact ⟨_, rfl, .inl rfl⟩
  | true =>
   obtain ⟨hv, hfew⟩ := hf rfl
   simp only [Bool.not_true, Bool.false_eq_true, if_false]
   refine ex_loop i (fun j s => s = (j : Int) ∧ ∀ u (h' : u < P.length), u < j → P[u].what ≠ P[i].what) (fun o => o = .out (.out 3) ∨ (o = .go () ∧ ∀ u (h' : u < P.length), u < i → P[u].what ≠ P[i].what)) ⟨rfl, fun u _ h => by omega⟩ (by omega) (fun g j s hj hjj hg => ?_) (fun g s hjj => ?_) (fun o ho => ?_)
   ·obtain ⟨rfl, hne⟩ := hjj
    have hjl : j < P.length := by omega
    have hy : idx P (j : Int) = some P[j] := by rw [idx_nat]; exact List.getElem?_eq_getElem hjl
    obtain ⟨c, hc, he⟩ := r08_Equal_ex (K := K) hK2 (a := P[i].what) (b := P[j].what) (.inl hfew) (by have := (hP _ hm).what.1; omega) (hP _ hm).what.2.1
    have hlt : decide ((j : Int) < (i : Int)) = true := decide_eq_true (by omega)
    simp only [hlt, if_true, hy, Option.bind_some, hc]
    cases c with
    | true => exact ⟨_, rfl, .inl rfl⟩
    | false =>
     simp only [Bool.false_eq_true, if_false]
     rw [w64s (by omega)]
     refine hg _ ⟨rfl, fun u h' hu => ?_⟩
     by_cases hu2 : u = j
     ·subst hu2; intro hh; exact absurd (he.2 hh.symm) (by simp)
     ·exact hne u h' (by omega)
   ·obtain ⟨rfl, hne⟩ := hjj
    have hlt : decide ((i : Int) < (i : Int)) = false := by simp
    simp only [hlt, Bool.false_eq_true, if_false]
    exact ⟨_, rfl, .inr ⟨rfl, hne⟩⟩
   ·rcases ho with rfl | ⟨rfl, hne⟩
    ·exact ⟨_, rfl, .inl rfl⟩
    ·rw [Out.fin_go, w64s (by omega)]
     refine hg _ ⟨rfl, fun t h ht => ?_⟩
     by_cases ht2 : t = i
     ·subst ht2; exact ⟨⟨hv, hfew⟩, hne⟩
     ·exact hgd t h (by omega)
 ·obtain ⟨rfl, hgd⟩ := hj
  simp only [lt_fn (Nat.le_refl P.length), Bool.false_eq_true, if_false]
  exact ⟨_, rfl, .inr ⟨rfl, hgd⟩⟩
 ·rcases ho with rfl | ⟨rfl, hgd⟩
  ·exact ⟨3, rfl, fun h => by cases h⟩
  ·exact ⟨0, rfl, fun _ => ⟨by omega, hgd⟩⟩
theorem subst_Check_eq {K : Nat} (hK2 : 100 < K) {P : List Api_PairA} (hP : ∀ p ∈ P, PrK K p) (hl : P.length ≤ 40) (hg : GoodP K P P.length) : subst_Check K P = some 0 := by
 unfold subst_Check
 have e : decide ((40 : Int) < (P.length : Int)) = false := decide_eq_false (by omega)
 simp only [e, Bool.false_eq_true, if_false]
 refine ob (Out.go () : Out Unit Int) (foldG P.length (fun i => (i : Int)) _ (fun g i hi => ?_) (fun g => ?_) (by omega) rfl) rfl
 ·have hx : idx P (i : Int) = some P[i] := by rw [idx_nat]; exact List.getElem?_eq_getElem hi
  obtain ⟨⟨hv, hfew⟩, hne⟩ := hg i hi hi
  have hcut : cutL P none (some (i : Int)) = some (P.take i) := by
   unfold cutL
   simp only [Option.getD_some, Option.getD_none]
   rw [if_pos (by omega)]
   simp
  have hlt : (P.take i).length = i := by rw [List.length_take]; omega
  simp only [lt_tn hi, if_true, hx, Option.bind_some, hv, Bool.not_true, Bool.false_eq_true, if_false, hcut, hlt]
  rw [show g ((i + 1 : Nat) : Int) = g (IntKind.wrap .i64 ((i : Int) + 1)) by rw [w64s (by omega)]]
  refine ob (Out.go () : Out Unit _) (foldG i (fun j => (j : Int)) _ (fun g j hj => ?_) (fun g => ?_) (by omega) rfl) rfl
  ·have hjl : j < P.length := by omega
   have hy : idx (P.take i) (j : Int) = some P[j] := by rw [idx_nat, List.getElem?_take, if_pos hj]; exact List.getElem?_eq_getElem hjl
   have hlt : decide ((j : Int) < (i : Int)) = true := decide_eq_true (by omega)
   have hw := (hP _ (List.getElem_mem hjl)).what
   simp only [hlt, if_true, hy, Option.bind_some, tree_Equal_no hK2 (.inr hfew) (show P[j].what.size ≤ K by have := hw.1; omega) hw.2.1 (hne j hjl hj), Bool.false_eq_true, if_false]
   rw [w64s (by omega)]
  ·have hlt : decide ((i : Int) < (i : Int)) = false := by simp
   simp only [hlt, Bool.false_eq_true, if_false]
 ·simp only [lt_fn (Nat.le_refl P.length), Bool.false_eq_true, if_false]
end Go.Proofs.YtfnfjjgphhoigaaGreat
namespace Go.Proofs.YtfnfjjgphhoigaaGreat
open Go Go.Iso Go.Proofs
set_option linter.unusedSimpArgs false
set_option linter.unusedVariables false
set_option maxRecDepth 100000
/-! ### Apply -/
theorem awake17_eq (k : Nat) : law17_awake (k + 400) = some true := by kernel_rfl
theorem Apply_eq {K : Nat} (hK2 : 100 < K) {n : NodeA} {P : List Api_PairA} (h0 : rootS n = 0) (hb : n.size ≤ 16000) (hP : ∀ p ∈ P, PrK K p) (hl : P.length ≤ 40) (hg : GoodP K P P.length) (hnm : NM P n) (hK : 6 * n.size + 200 ≤ K) : subst_Apply K n P = some (n, [], 0) := by
 have hbb : big = 1099511627776 := rfl
 have hf : Fine n := ⟨_, _, _, (rootS_ok h0).1⟩
 unfold rootS at h0
 have hPK : PK P K := ⟨by omega, by omega, fun p hp => ⟨by have := (hP p hp).what.1; omega, (hP p hp).what.2.1⟩⟩
 obtain ⟨p', hw⟩ := walk_eq hf hb hnm hPK hK
 unfold subst_Apply
 rw [tree_Sort_eq]
 simp only [Option.bind_some, orO]
 cases hs : (sortS n.op == (0 : Int) || sortS n.op == (4 : Int)) with
 | true => rw [hs] at h0; cases h0
 | false =>
  rw [hs] at h0
  simp only [Bool.false_eq_true, if_false] at h0
  simp only [Bool.false_eq_true, if_false, Option.bind_some, Out.fin_go, tree_Check_eq (show 12 < K by omega) (show 2 * n.size ≤ K by omega) (by omega), h0, bne_self_eq_false, subst_Check_eq hK2 hP hl hg, hw]
/-! ### Lightness -/
theorem lite {l : Nat} {i : Nat} : ((if decide ((i : Int) < (l : Int)) then some (decide ((i : Int) < (60 : Int))) else some false) : Option Bool) = some (decide (i < min l 60)) := by
 by_cases h1 : i < l
 ·rw [decide_eq_true (show (i : Int) < (l : Int) by omega)]
  simp only [if_true]
  by_cases h2 : i < 60
  ·rw [decide_eq_true (show (i : Int) < 60 by omega), decide_eq_true (show i < min l 60 by omega)]
  ·rw [decide_eq_false (show ¬ (i : Int) < 60 by omega), decide_eq_false (show ¬ i < min l 60 by omega)]
 ·rw [decide_eq_false (show ¬ (i : Int) < (l : Int) by omega), decide_eq_false (show ¬ i < min l 60 by omega)]; rfl
structure PrB (p : Api_PairA) : Prop where
 what : p.what.size ≤ 1048576 ∧ p.what.words
 with_ : p.with_.size ≤ 1048576 ∧ p.with_.words
 rates : ∀ r ∈ p.rates, r.words
 sum : (p.rates.map NodeA.size).sum ≤ 1048576
theorem rate_le {p : Api_PairA} (h : PrB p) {r : NodeA} (hr : r ∈ p.rates) : r.size ≤ 1048576 := Nat.le_trans (sum_mem (List.mem_map_of_mem hr)) h.sum
theorem PrB.k {p : Api_PairA} (h : PrB p) {K : Nat} (hK : 3000000 ≤ K) : PrK K p := by
 have hbb : big = 1099511627776 := rfl
 have h1 := h.what; have h2 := h.with_; have h3 := h.sum
 exact ⟨⟨by omega, by omega, h1.2⟩, ⟨by omega, by omega, h2.2⟩, fun r hr => by have := rate_le h hr; exact ⟨by omega, by omega, h.rates r hr⟩, by omega, by omega⟩
theorem light_ex {K : Nat} (hK : 3000000 ≤ K) {P : List Api_PairA} (hP : ∀ p ∈ P, PrB p) : ∃ b, law17_light K P = some b := by
 have hbb : big = 1099511627776 := rfl
 suffices h : ∃ b, law17_light K P = some b ∧ True by obtain ⟨b, h, _⟩ := h; exact ⟨b, h⟩
 unfold law17_light
 refine ex_loop (min P.length 60) (fun i s => ∃ a : Int, s = (a, (i : Int)) ∧ 0 ≤ a ∧ a ≤ (i : Int) * 100000000) (fun o => True) ⟨0, rfl, by omega, by omega⟩ (by omega) (fun g i s hi hj hg => ?_) (fun g s hj => ?_) (fun o _ => ?_)
 ·obtain ⟨a, rfl, h0, ha⟩ := hj
  have hi2 : i < P.length := by omega
  have hx : idx P (i : Int) = some P[i] := by rw [idx_nat]; exact List.getElem?_eq_getElem hi2
  have hp := hP _ (List.getElem_mem hi2)
  have q1 := hp.what; have q2 := hp.with_
  have s1 : r08_Size K P[i].what = some (P[i].what.size : Int) := r08_Size_eq (by omega) (by omega)
  have s2 : r08_Size K P[i].with_ = some (P[i].with_.size : Int) := r08_Size_eq (by omega) (by omega)
  simp only [lite, decide_eq_true hi, Option.bind_some, if_true, Out.fin_go, hx, s1, s2]
  refine ex_loop (min P[i].rates.length 60) (fun j s => ∃ b : Int, s = (b, (j : Int)) ∧ 0 ≤ b ∧ b ≤ (i : Int) * 100000000 + 2097152 + (j : Int) * 1048576) (fun o => 0 ≤ o ∧ o ≤ (i : Int) * 100000000 + 100000000) ?_ (by omega) (fun g j s hj hjj hg => ?_) (fun g s hjj => ?_) (fun o ho => ?_)
  ·refine ⟨_, rfl, ?_, ?_⟩
   ·rw [w64 (z := (P[i].what.size : Int) + (P[i].with_.size : Int)) (by omega) (by omega), w64 (by omega) (by omega)]; omega
   ·rw [w64 (z := (P[i].what.size : Int) + (P[i].with_.size : Int)) (by omega) (by omega), w64 (by omega) (by omega)]; omega
  ·obtain ⟨b, rfl, b0, hb⟩ := hjj
   have hj2 : j < P[i].rates.length := by omega
   have hy : idx P[i].rates (j : Int) = some P[i].rates[j] := by rw [idx_nat]; exact List.getElem?_eq_getElem hj2
   have hr := rate_le hp (List.getElem_mem hj2)
   have s3 : r08_Size K P[i].rates[j] = some (P[i].rates[j].size : Int) := r08_Size_eq (by omega) (by omega)
   simp only [lite, decide_eq_true hj, Option.bind_some, if_true, Out.fin_go, hy, s3]
   rw [w64s (by omega), w64 (by omega) (by omega)]
   exact hg _ ⟨_, rfl, by omega, by omega⟩
  ·obtain ⟨b, rfl, b0, hb⟩ := hjj
   simp only [lite, Nat.lt_irrefl, decide_false, Option.bind_some, Bool.false_eq_true, if_false, outM_eq, Out.fin_out]
   exact ⟨_, rfl, b0, by omega⟩
  ·obtain ⟨o0, o1⟩ := ho
   by_cases h60 : 60 < P[i].rates.length
   ·rw [decide_eq_true (show (60 : Int) < (P[i].rates.length : Int) by omega)]
    exact ⟨_, rfl, trivial⟩
   ·rw [decide_eq_false (show ¬ (60 : Int) < (P[i].rates.length : Int) by omega)]
    simp only [Bool.false_eq_true, if_false]
    rw [w64s (by omega)]
    exact hg _ ⟨o, rfl, o0, by omega⟩
 ·obtain ⟨a, rfl, h0, ha⟩ := hj
  simp only [lite, Nat.lt_irrefl, decide_false, Option.bind_some, Bool.false_eq_true, if_false, outM_eq, Out.fin_out]
  exact ⟨_, rfl, trivial⟩
 ·cases o with
  | out r => exact ⟨_, rfl, trivial⟩
  | go a =>
   rw [Out.fin_go]
   cases decide ((P.length : Int) ≤ (60 : Int)) with
   | true => exact ⟨_, rfl, trivial⟩
   | false => exact ⟨_, rfl, trivial⟩
/-! ### The law -/
theorem keeps_law {n : NodeA} {P : List Api_PairA} (hn : n.size ≤ 1048576 ∧ n.words) (hP : ∀ p ∈ P, PrB p) : ∃ K, law17_SubstKeeps K n P = some true := by
 refine ⟨7000000 + 400, ?_⟩
 have hbb : big = 1099511627776 := rfl
 have haw := awake17_eq 7000000
 generalize hKe : 7000000 + 400 = K at haw ⊢
 have hK2 : 100 < K := by omega
 suffices h : ∃ b, law17_SubstKeeps K n P = some b ∧ b = true by obtain ⟨b, h, rfl⟩ := h; exact h
 unfold law17_SubstKeeps
 rw [haw]
 simp only [Option.bind_some, Bool.not_true, Bool.false_eq_true, if_false, r08_Size_eq (show n.size ≤ K by omega) (show n.size ≤ big by omega)]
 by_cases h600 : 600 < n.size
 ·rw [decide_eq_true (show (600 : Int) < (n.size : Int) by omega)]
  exact ⟨_, rfl, rfl⟩
 rw [decide_eq_false (show ¬ (600 : Int) < (n.size : Int) by omega)]
 obtain ⟨b, hb⟩ := light_ex (K := K) (by omega) hP
 simp only [Bool.false_eq_true, if_false, hb, Option.bind_some]
 cases b with
 | false => exact ⟨_, rfl, rfl⟩
 | true =>
  have hPK : ∀ p ∈ P, PrK K p := fun p hp => (hP p hp).k (by omega)
  obtain ⟨e, he, hc⟩ := r17_Check_ex hK2 hPK
  simp only [Bool.not_true, Bool.false_eq_true, if_false, he, Option.bind_some]
  by_cases h0 : e = 0
  ·subst h0
   obtain ⟨h40, hgood⟩ := hc rfl
   obtain ⟨l, hl, hsym⟩ := Symbols_ex (K := K) (n := n) hK2 (by omega) (by omega) hn.2
   simp only [bne_self_eq_false, Bool.false_eq_true, if_false, Option.bind_some, Out.fin_go, hl]
   by_cases hr : rootS n = 0
   ·rw [hr]
    simp only [bne_self_eq_false, Bool.false_eq_true, if_false]
    obtain ⟨m1, m2, m3⟩ := hsym hr
    have hf : Fine n := ⟨_, _, _, (rootS_ok hr).1⟩
    refine ex_loop P.length (fun i s => s = (i : Int) ∧ ∀ t (h : t < P.length), t < i → ∀ x ∈ l, P[t].what ≠ x) (fun o => o = .out true ∨ (o = .go () ∧ ∀ t (h : t < P.length), ∀ x ∈ l, P[t].what ≠ x)) ⟨rfl, fun t _ h => by omega⟩ (by omega) (fun g i s hi hj hg => ?_) (fun g s hj => ?_) (fun o ho => ?_)
    ·obtain ⟨rfl, hne⟩ := hj
     have hm := List.getElem_mem hi
     have hx : idx P (i : Int) = some P[i] := by rw [idx_nat]; exact List.getElem?_eq_getElem hi
     have hw := (hPK _ hm).what
     simp only [lt_tn hi, if_true]
     refine ex_loop l.length (fun j s => s = (j : Int) ∧ ∀ x ∈ l.take j, P[i].what ≠ x) (fun o => o = .out (.out true) ∨ (o = .go () ∧ ∀ x ∈ l, P[i].what ≠ x)) ⟨rfl, by simp⟩ (by omega) (fun g j s hj hjj hg => ?_) (fun g s hjj => ?_) (fun o ho => ?_)
     ·obtain ⟨rfl, hne⟩ := hjj
      have hy : idx l (j : Int) = some l[j] := by rw [idx_nat]; exact List.getElem?_eq_getElem hj
      obtain ⟨c, hc, hce⟩ := r08_Equal_ex (K := K) hK2 (a := P[i].what) (b := l[j]) (.inr (m2 _ (List.getElem_mem hj)).1) (by have := hw.1; omega) hw.2.1
      simp only [lt_tn hj, if_true, hx, hy, Option.bind_some, hc]
      cases c with
      | true => exact ⟨_, rfl, .inl rfl⟩
      | false =>
       simp only [Bool.false_eq_true, if_false]
       rw [w64s (by omega)]
       refine hg _ ⟨rfl, fun x hx' => ?_⟩
       rw [← set_take hj, List.mem_append, List.mem_singleton] at hx'
       rcases hx' with hx' | rfl
       ·exact hne x hx'
       ·intro hh; exact absurd (hce.2 hh) (by simp)
     ·obtain ⟨rfl, hne⟩ := hjj
      rw [List.take_length] at hne
      simp only [lt_fn (Nat.le_refl l.length), Bool.false_eq_true, if_false]
      exact ⟨_, rfl, .inr ⟨rfl, hne⟩⟩
     ·rcases ho with rfl | ⟨rfl, hnx⟩
      ·exact ⟨_, rfl, .inl rfl⟩
      ·rw [Out.fin_go, w64s (by omega)]
       refine hg _ ⟨rfl, fun t h ht => ?_⟩
       by_cases ht2 : t = i
       ·subst ht2; exact hnx
       ·exact hne t h (by omega)
    ·obtain ⟨rfl, hne⟩ := hj
     simp only [lt_fn (Nat.le_refl P.length), Bool.false_eq_true, if_false]
     exact ⟨_, rfl, .inr ⟨rfl, fun t h => hne t h h⟩⟩
    ·rcases ho with rfl | ⟨rfl, hne⟩
     ·exact ⟨true, rfl, rfl⟩
     ·rw [Out.fin_go]
      have hnm : NM P n := fun p hp s hs => by
       obtain ⟨t, ht, rfl⟩ := List.mem_iff_getElem.1 hp
       exact hne t ht s (m1 s hs)
      have a1 := Apply_eq hK2 hr (by omega) hPK h40 hgood hnm (by omega)
      have a2 := Apply_eq (P := []) hK2 hr (by omega) (fun p hp => by cases hp) (by simp) (fun t h => by cases h) (fun p hp => by cases hp) (by omega)
      simp only [a1, a2, Option.bind_some, beq_self_eq_true, if_true, equal_refl hK2 (fine_fewN n hf) (show n.size ≤ K by omega) (show n.size ≤ big by omega)]
      exact ⟨true, rfl, rfl⟩
   ·have e : (rootS n != 0) = true := by simpa using hr
    rw [e]; exact ⟨true, rfl, rfl⟩
  ·have e : (e != (0 : Int)) = true := by simpa using h0
   rw [e]; exact ⟨true, rfl, rfl⟩
end Go.Proofs.YtfnfjjgphhoigaaGreat
