/- Part of the proof of a law: contracts of the functions that the law reaches, or plain laws of them, out of the abstract layer (the texts YtemjeommnpocnaaGreatIso..). No condition. -/
import Derived.Test.YtemjeommnpocnaaGreatIsoF
import Derived.Test.YtemjeommnpocnaaGreatRows
import Derived.Test.YtemjeommnpocnaaGreatW
import Derived.Lib.SmallJoins
import Derived.Deep.Strs
import Derived.Test.YtemjeommnpocnaaGreatPc
import Derived.Test.YtemjeommnpocnaaGreatIsoU
import Derived.KernelRfl
namespace Go.Proofs.YtemjeommnpocnaaGreat
open Go Go.Iso Go.Proofs Go.RowKit Go.ChangeShapes Go.WideShapes Go.ChangeAt
set_option linter.unusedVariables false
set_option linter.unusedSimpArgs false
set_option maxRecDepth 100000
/-! ### Trees as they are read -/
theorem u32_wf {z : Int} (h : (Lit.int .u32 z).wf = true) : 0 ≤ z ∧ z < 4294967296 := by
 simp [Lit.wf, IntKind.min, IntKind.max, IntKind.signed, IntKind.bits] at h; omega
theorem words_rep {H : Type} {enc : TypeId × Value → H} {W : World} {fuel : Nat} {cs : List Value} {x : DataW H × List MemPlace} (h : DataW.trod enc Tryz.prog W 0 (fun _ => true) true fuel 22 cs = some x) :
  ∃ (l : List Int) (c : Value), cs = [c] ∧ RepD (there W) W (slD u32V l) c ∧ ∀ z ∈ l, 0 ≤ z ∧ z < 4294967296 := by
 obtain ⟨l, c, h1, h2, h3⟩ := slice_rep u32V (s := 1) Tryz.underlying22 (by kernel_rfl) (by omega) (fun _ => rfl) (fun z _ => 0 ≤ z ∧ z < 4294967296) (fun n cs' y _ hy => by
  obtain ⟨z, h1, h2⟩ := int_cell Tryz.underlying86 hy
  exact ⟨z, h1, u32_wf h2⟩) h
 refine ⟨l, c, h1, h2, fun z hz => ?_⟩
 rcases h3 with ⟨_, rfl⟩ | ⟨ys, rest, _, hl, hq⟩
 ·cases hz
 ·obtain ⟨i, hi, rfl⟩ := List.mem_iff_getElem.1 hz
  exact hq i hi (by omega)
theorem rat_rep {H : Type} {enc : TypeId × Value → H} {W : World} {fuel : Nat} {cs : List Value} {x : DataW H × List MemPlace} (h : DataW.trod enc Tryz.prog W 0 (fun _ => true) true fuel 24 cs = some x) :
  ∃ r : RatA, RowRep W r.enc cs ∧ r.words := by
 obtain ⟨y0, y1, y2, n, rfl, hl, h0, h1, h2⟩ := Go.Deep.trod_struct3 Tryz.underlying24 h
 have hc : Tryz.prog.cellsOf 24 = 3 := by kernel_rfl
 have hc4 : Tryz.prog.cellsOf 4 = 1 := by kernel_rfl
 have hc36 : Tryz.prog.cellsOf 22 = 1 := by kernel_rfl
 rw [hc] at hl
 match cs, hl with
 | [u, v, w], _ =>
  simp only [hc4, hc36, List.drop_zero, List.take_succ_cons, List.take_zero, List.drop_succ_cons] at h0 h1 h2
  obtain ⟨b, e0, _⟩ := DataW.trod_bool Tryz.underlying4 h0
  obtain ⟨l1, c1, e1, r1, w1⟩ := words_rep h1
  obtain ⟨l2, c2, e2, r2, w2⟩ := words_rep h2
  cases e0; cases e1; cases e2
  refine ⟨⟨b, l1, l2⟩, ⟨rfl, fun j hj => ?_⟩, w1, w2⟩
  match j, hj with
  | 0, _ => exact .val _ rfl
  | 1, _ => exact r1
  | 2, _ => exact r2
theorem bulk_slice {H : Type} {ys rest : List (DataW H)} : Rows.uptoBulk (.slice ys rest) = Rows.uptoBulkAll ys + Rows.uptoBulkAll rest + 1 := by rw [Rows.uptoBulk]
theorem bulk_ge {H : Type} : ∀ {l : List NodeA} {ys : List (DataW H)}, l.length = ys.length → (∀ i (h1 : i < l.length) (h2 : i < ys.length), l[i].size ≤ Rows.uptoBulk ys[i]) → (l.map NodeA.size).sum ≤ Rows.uptoBulkAll ys
 | [], _, _, _ => by simp
 | x :: l, [], h, _ => by simp at h
 | x :: l, y :: ys, h, hq => by
  have h0 := hq 0 (by simp) (by simp)
  have := bulk_ge (l := l) (ys := ys) (by simpa using h) fun i h1 h2 => by
   have := hq (i + 1) (by simpa using h1) (by simpa using h2); simpa using this
  rw [Rows.uptoBulkAll, List.map_cons, List.sum_cons]
  simp at h0; omega
theorem node_row {H : Type} {enc : TypeId × Value → H} {W : World} : ∀ (fuel : Nat) (cs : List Value) (x : DataW H × List MemPlace), DataW.trod enc Tryz.prog W 0 (fun _ => true) true fuel 27 cs = some x →
  ∃ n : NodeA, RowRep W n.enc cs ∧ n.words ∧ n.size ≤ Rows.uptoBulk x.1 := by
 intro fuel
 induction fuel using Nat.strongRecOn with
 | _ fuel ih =>
  intro cs x h
  obtain ⟨xs, n, hfu, rfl, hl, hlen, hfs⟩ := DataW.trod_struct Tryz.underlying27 h
  have hc : Tryz.prog.cellsOf 27 = 6 := by kernel_rfl
  have hc1 : Tryz.prog.cellsOf 3 = 1 := by kernel_rfl
  have hc2 : Tryz.prog.cellsOf 9 = 1 := by kernel_rfl
  have hc3 : Tryz.prog.cellsOf 24 = 3 := by kernel_rfl
  have hc4 : Tryz.prog.cellsOf 25 = 1 := by kernel_rfl
  rw [hc] at hl
  match xs, hlen with
  | [y0, y1, y2, y3], _ =>
  match cs, hl with
  | [u0, u1, u2, u3, u4, u5], _ =>
   have h0 := hfs 0 _ rfl
   have h1 := hfs 1 _ rfl
   have h2 := hfs 2 _ rfl
   have h3 := hfs 3 _ rfl
   simp only [hc1, hc2, hc3, hc4, List.drop_zero, List.take_succ_cons, List.take_zero, List.drop_succ_cons, List.getElem?_cons_zero, List.getElem?_cons_succ] at h0 h1 h2 h3
   obtain ⟨z, e0, _, _⟩ := DataW.trod_int Tryz.underlying3 h0
   obtain ⟨s, e1, _, hs⟩ := DataW.trod_string Tryz.underlying9 h1
   obtain ⟨r, r2, w2⟩ := rat_rep h2
   obtain ⟨l, c, e3, r3, q3⟩ := slice_rep NodeA.enc (s := 6) Tryz.underlying25 (by kernel_rfl) (by omega) NodeA.enc_len (fun k y => k.words ∧ k.size ≤ Rows.uptoBulk y) (fun m cs' y hm hy => ih m (by omega) cs' y hy) h3
   cases e0; cases e1; cases e3
   refine ⟨.mk z s r l, ⟨by rw [NodeA.enc_mk]; rfl, fun j hj => ?_⟩, ?_, ?_⟩
   ·have hr := r2.2
    have e : (NodeA.mk z s r l).enc = [.val (.int .i64 z), .val (.string s), .val (.bool r.neg), slD u32V r.num, slD u32V r.den, slD NodeA.enc l] := NodeA.enc_mk
    have hj6 : j < 6 := by rw [e] at hj; exact hj
    have key : ∀ (ds : List D), ds = (NodeA.mk z s r l).enc → ∀ hj : j < ds.length, RepD (there W) W ds[j] ([Value.int .i64 z, .string s, u2, u3, u4, u5].getD j undef) := by
     intro ds hd hj
     rw [e] at hd; subst hd
     match j, hj6 with
     | 0, _ => exact .val _ rfl
     | 1, _ => exact .val _ (by rw [maxLen_eq] at hs; simpa [okVal] using hs)
     | 2, _ => exact hr 0 (by simp [RatA.enc])
     | 3, _ => exact hr 1 (by simp [RatA.enc])
     | 4, _ => exact hr 2 (by simp [RatA.enc])
     | 5, _ => exact r3
    exact key _ rfl hj
   ·rw [NodeA.words_mk]
    refine ⟨w2, fun k hk => ?_⟩
    rcases q3 with ⟨_, rfl⟩ | ⟨ys, rest, _, hl3, hq⟩
    ·cases hk
    ·obtain ⟨i, hi, rfl⟩ := List.mem_iff_getElem.1 hk
     exact (hq i hi (by omega)).1
   ·rw [NodeA.size_mk]
    simp only [List.map_cons, List.map_nil]
    rw [Rows.uptoBulk]
    simp only [Rows.uptoBulkAll]
    rcases q3 with ⟨_, rfl⟩ | ⟨ys, rest, e4, hl3, hq⟩
    ·simp
    ·have := bulk_ge hl3 fun i h1 h2 => (hq i h1 h2).2
     rw [e4, bulk_slice]; omega
theorem node_rep {H : Type} {enc : TypeId × Value → H} {W : World} {base : Nat} {v : Value} {d : DataW H} {ps : List MemPlace} (hval : Value.okWide Tryz.prog W .any base 27 v) (h : DataW.Trod enc Tryz.prog W 0 (fun _ => true) true 27 v d ps) :
  ∃ n : NodeA, RepV (fun _ => none) (there W) W (aggV n.enc) v ∧ n.words ∧ n.size ≤ Rows.uptoBulk d := by
 obtain ⟨cs, rfl, hs⟩ := okWide_struct Tryz.underlying27 hval
 obtain ⟨fuel, hf⟩ := h
 obtain ⟨n, h1, h2, h3⟩ := node_row fuel _ _ hf
 obtain ⟨cs⟩ := cs
 refine ⟨n, .agg (by have := h1.1; simp only [Value.cells] at this; simp [this]) fun i hi => ?_, h2, h3⟩
 have := h1.2 i (by simpa using hi)
 simp only [Value.cells] at this
 rw [List.getElem_map]
 refine .d ?_
 simpa [Array.getD_eq_getD_getElem?, List.getD_eq_getElem?_getD] using this
end Go.Proofs.YtemjeommnpocnaaGreat
namespace Go.Proofs.YtemjeommnpocnaaGreat
open Go Go.Iso Go.Proofs
set_option linter.unusedSimpArgs false
set_option linter.unusedVariables false
set_option maxRecDepth 100000
/-! ### Operators -/
def sortS (p0 : Int) : Int :=
 if (decide (1 ≤ p0) && decide (p0 ≤ 13)) then 1 else if (decide (20 ≤ p0) && decide (p0 ≤ 39)) then 2 else if (p0 == 55 || p0 == 56) then 4 else if (decide (50 ≤ p0) && decide (p0 ≤ 62)) then 3 else 0
theorem tree_Sort_eq {K : Nat} {op : Int} : tree_Sort K op = some (sortS op) := by
 unfold tree_Sort sortS; simp only [andO, orO, Option.bind_some, ifOI]
theorem r08_Sort_eq {K : Nat} {op : Int} : r08_Sort K op = some (sortS op) := by
 unfold r08_Sort sortS; simp only [andO, orO, Option.bind_some, ifOI]
theorem sort_range {op : Int} (h : sortS op ≠ 0) : ∃ k : Nat, k < 63 ∧ op = k := by
 refine ⟨op.toNat, ?_, ?_⟩ <;>
 ·have : 1 ≤ op ∧ op ≤ 62 := by
   apply Classical.byContradiction
   intro hc
   apply h
   unfold sortS
   have e1 : (decide (1 ≤ op) && decide (op ≤ 13)) = false := by simp; omega
   have e2 : (decide (20 ≤ op) && decide (op ≤ 39)) = false := by simp; omega
   have e3 : (op == 55 || op == 56) = false := by simp; omega
   have e4 : (decide (50 ≤ op) && decide (op ≤ 62)) = false := by simp; omega
   rw [e1, e2, e3, e4]; rfl
  omega
def namedS (op : Int) : Bool := (tree_shape 0 op).all (·.1)
def sortsS (op : Int) : Option (List Int) := (tree_shape 0 op).bind (·.2)
theorem tree_shape_eq {K : Nat} {op : Int} : tree_shape K op = some (namedS op, sortsS op) := by
 have e : ∃ r, tree_shape 0 op = some r := by
  unfold tree_shape; simp only [andO, orO, orO', Option.bind_some, ifOP, ifOO, outM_eq, finIf, finIf', Out.fin_go, Out.fin_out]
  repeat' (first | exact ⟨_, rfl⟩ | split)
 obtain ⟨r, h⟩ := e
 have e2 : tree_shape K op = tree_shape 0 op := rfl
 unfold namedS sortsS
 rw [e2, h]; rfl
def namB (op : Int) : Bool := (r08_named 0 op).all id
def kidB (op : Int) : ByteArray := (r08_kids 0 op).getD ⟨#[]⟩
theorem r08_named_eq {K : Nat} {op : Int} : r08_named K op = some (namB op) := by
 have e : ∃ r, r08_named 0 op = some r := by
  unfold r08_named; simp only [andO, orO, orO', Option.bind_some]
  repeat' (first | exact ⟨_, rfl⟩ | split)
 obtain ⟨r, h⟩ := e
 have e2 : r08_named K op = r08_named 0 op := rfl
 unfold namB
 rw [e2, h]; rfl
theorem r08_kids_eq {K : Nat} {op : Int} : r08_kids K op = some (kidB op) := by
 have e : ∃ r, r08_kids 0 op = some r := by
  unfold r08_kids; simp only [andO, orO, orO', Option.bind_some, ifOS]
  repeat' (first | exact ⟨_, rfl⟩ | split)
 obtain ⟨r, h⟩ := e
 have e2 : r08_kids K op = r08_kids 0 op := rfl
 unfold kidB
 rw [e2, h]; rfl
def tabB (k : Int) : Bool := sortS k == 0 || (namB k == (namedS k || (k == 10 || k == 37)) && ((kidB k).toList.map (fun c => (c.toNat : Int) - 48) == (sortsS k).getD []) && ((kidB k).toList.all fun c => decide (48 ≤ c.toNat) && decide (c.toNat ≤ 57)) &&
 (!(k == 10 || k == 37 || k == 54) || sortsS k == none && !namedS k) && (!(k == 39) || sortsS k == some [2]) && (!(k == 8 || k == 9) || sortsS k == some [1, 1]) && (!(k == 12) || sortsS k == some [1]) && ((sortsS k).getD []).all (fun s => s != 0))
theorem tab_all : ((List.range 63).all fun k => tabB (k : Int)) = true := by decide +kernel
theorem tab {op : Int} (h : sortS op ≠ 0) : namB op = (namedS op || (op == 10 || op == 37)) ∧ (kidB op).toList.map (fun c => (c.toNat : Int) - 48) = (sortsS op).getD [] ∧ (∀ c ∈ (kidB op).toList, 48 ≤ c.toNat ∧ c.toNat ≤ 57) ∧
  ((op == 10 || op == 37 || op == 54) = true → sortsS op = none ∧ namedS op = false) ∧ (op = 39 → sortsS op = some [2]) ∧ ((op == 8 || op == 9) = true → sortsS op = some [1, 1]) ∧ (op = 12 → sortsS op = some [1]) ∧ (∀ s ∈ (sortsS op).getD [], s ≠ 0) := by
 obtain ⟨k, hk, rfl⟩ := sort_range h
 have := List.all_eq_true.1 tab_all k (List.mem_range.2 hk)
 generalize (k : Int) = op at *
 unfold tabB at this
 have h0 : (sortS op == 0) = false := beq_eq_false_iff_ne.2 h
 rw [h0, Bool.false_or] at this
 simp only [Bool.and_eq_true] at this
 obtain ⟨⟨⟨⟨⟨⟨⟨h1, h2⟩, h3⟩, h4⟩, h5⟩, h6⟩, h7⟩, h8⟩ := this
 refine ⟨eq_of_beq h1, eq_of_beq h2, fun c hc => ?_, fun ho => ?_, fun ho => ?_, fun ho => ?_, fun ho => ?_, fun s hs => ?_⟩
 ·have := List.all_eq_true.1 h3 c hc
  simpa using this
 ·rw [ho] at h4
  simp only [Bool.not_true, Bool.false_or, Bool.and_eq_true, Bool.not_eq_true'] at h4
  exact ⟨eq_of_beq h4.1, h4.2⟩
 ·have : (op == 39) = true := by simp [ho]
  rw [this] at h5; simpa using h5
 ·rw [ho] at h6; simpa using h6
 ·have : (op == 12) = true := by simp [ho]
  rw [this] at h7; simpa using h7
 ·have := List.all_eq_true.1 h8 s hs
  simpa using this
/-! ### Names -/
def letB (z : Int) : Bool := decide (97 ≤ z) && decide (z ≤ 122) || decide (65 ≤ z) && decide (z ≤ 90)
theorem tree_letter_eq {K : Nat} {z : Int} : tree_letter K z = some (letB z) := by
 unfold tree_letter letB
 cases decide (97 ≤ z) <;> cases decide (z ≤ 122) <;> cases decide (65 ≤ z) <;> rfl
theorem r08_letter_eq {K : Nat} {z : Int} : r08_letter K z = some (letB z) := by
 unfold r08_letter letB
 cases decide (97 ≤ z) <;> cases decide (z ≤ 122) <;> cases decide (65 ≤ z) <;> rfl
def digB (z : Int) : Bool := !(decide (z < 48) || decide (57 < z))
abbrev kw (s : ByteArray) : Bool := (s.toList == (⟨#[116, 114, 117, 101]⟩ : ByteArray).toList || (s.toList == (⟨#[102, 97, 108, 115, 101]⟩ : ByteArray).toList || (s.toList == (⟨#[102, 111, 114, 97, 108, 108]⟩ : ByteArray).toList || s.toList == (⟨#[101, 120, 105, 115, 116, 115]⟩ : ByteArray).toList)))
def nameB (s : ByteArray) : Bool :=
 !(((s.size : Int) == 0) || (decide (12 < (s.size : Int)) || kw s)) && (List.range s.size).all fun i => (s[i]?).all fun c => letB c.toNat || !((i : Int) == 0) && digB c.toNat
theorem strAt_get {s : ByteArray} {i : Nat} (h : i < s.size) : strAt s (i : Int) = some s[i] ∧ s[i]? = some s[i] := by
 rw [strAt_nat]; exact ⟨getElem?_pos s i h, getElem?_pos s i h⟩
theorem r08_Name_eq {K : Nat} {s : ByteArray} (hK : 12 < K) : r08_Name K s = some (nameB s) := by
 unfold r08_Name
 simp only [orO, Option.bind_some, outM_eq, finIf, ifOO]
 unfold nameB
 cases hb : (((s.size : Int) == 0) || (decide (12 < (s.size : Int)) || kw s)) with
 | true => simp only [if_true, Bool.not_true, Bool.false_and]
 | false =>
  have hs : s.size ≤ 12 := by
   have : decide (12 < (s.size : Int)) = false := by revert hb; cases decide (12 < (s.size : Int)) <;> cases ((s.size : Int) == 0) <;> simp
   simp at this; omega
  simp only [Bool.false_eq_true, if_false, Bool.not_false, Bool.true_and]
  refine ob _ (scanG s.size (fun i => (i : Int)) (fun i => (s[i]?).all fun c => letB c.toNat || !((i : Int) == 0) && digB c.toNat) false () (fun g i hi => ?_) (fun g => ?_) (by omega) rfl) ?_
  ·obtain ⟨h1, h2⟩ := strAt_get hi
   have hd : decide ((i : Int) < (s.size : Int)) = true := by simp; omega
   simp only [hd, if_true, h1, h2, Option.bind_some, r08_letter_eq, Option.all_some]
   simp only [orO, orO', andO, Option.bind_some, outM_eq]
   rw [w64s (by omega)]
   unfold digB
   cases letB (s[i].toNat : Int) <;> cases ((i : Int) == 0) <;> cases decide ((s[i].toNat : Int) < 48) <;> cases decide (57 < (s[i].toNat : Int)) <;> rfl
  ·have hd : decide ((s.size : Int) < (s.size : Int)) = false := by simp
   simp only [hd, Bool.false_eq_true, if_false]
  ·cases (List.range s.size).all fun i => (s[i]?).all fun c => letB c.toNat || !((i : Int) == 0) && digB c.toNat <;> rfl
theorem tree_Name_eq {K : Nat} {s : ByteArray} (hK : 12 < K) : tree_Name K s = some (nameB s) := by
 unfold tree_Name
 have hkw : ∀ {x y : Option Bool}, (if (s.toList == (⟨#[116, 114, 117, 101]⟩ : ByteArray).toList) = true then x else y) = (if (s.toList == (⟨#[116, 114, 117, 101]⟩ : ByteArray).toList) = true then x else y) := rfl
 simp only [tree_letter_eq, Option.bind_some, orO']
 unfold nameB
 by_cases h0 : s.size = 0
 ·have e : ((s.size : Int) == 0) = true := by simp [h0]
  simp only [e, if_true, Option.bind_some, outM_eq, Out.fin_out, Bool.true_or, Bool.not_true, Bool.false_and]
 have e0 : ((s.size : Int) == 0) = false := int_ne0 h0
 by_cases h1 : 12 < s.size
 ·have e : decide (12 < (s.size : Int)) = true := by simp; omega
  simp only [e0, e, if_true, Bool.false_eq_true, if_false, Option.bind_some, outM_eq, Out.fin_out, Bool.true_or, Bool.or_true, Bool.not_true, Bool.false_and]
 have e1 : decide (12 < (s.size : Int)) = false := by simp; omega
 obtain ⟨g1, g2⟩ := strAt_get (s := s) (i := 0) (by omega)
 have g1' : strAt s 0 = some s[0] := g1
 simp only [e0, e1, Bool.false_eq_true, if_false, g1', Option.bind_some, Bool.false_or]
 cases hl : letB (s[0].toNat : Int) with
 | false =>
  simp only [Bool.not_false, if_true, outM_eq, Option.bind_some, Out.fin_out]
  have : ((List.range s.size).all fun i => (s[i]?).all fun c => letB c.toNat || !((i : Int) == 0) && digB c.toNat) = false := by
   rw [List.all_eq_false]
   refine ⟨0, List.mem_range.2 (by omega), ?_⟩
   rw [g2, Option.all_some, hl]; simp
  rw [this, Bool.and_false]
 | true =>
  simp only [Bool.not_true, Bool.false_eq_true, if_false, Option.bind_some, Out.fin_go]
  refine ob _ (scanG s.size (fun i => (i : Int)) (fun i => (s[i]?).all fun c => letB c.toNat || digB c.toNat) false () (fun g i hi => ?_) (fun g => ?_) (by omega) rfl) ?_
  ·obtain ⟨h1, h2⟩ := strAt_get hi
   have hd : decide ((i : Int) < (s.size : Int)) = true := by simp; omega
   simp only [hd, if_true, h1, h2, Option.bind_some, Option.all_some]
   rw [w64s (by omega)]
   unfold digB
   cases letB (s[i].toNat : Int) <;> cases decide ((s[i].toNat : Int) < 48) <;> cases decide (57 < (s[i].toNat : Int)) <;> rfl
  ·have hd : decide ((s.size : Int) < (s.size : Int)) = false := by simp
   simp only [hd, Bool.false_eq_true, if_false]
  ·have e2 : ((List.range s.size).all fun i => (s[i]?).all fun c => letB c.toNat || digB c.toNat) = (List.range s.size).all fun i => (s[i]?).all fun c => letB c.toNat || !((i : Int) == 0) && digB c.toNat := by
    rw [Bool.eq_iff_iff, List.all_eq_true, List.all_eq_true]
    refine forall_congr' fun i => forall_congr' fun hi => ?_
    obtain ⟨_, h2⟩ := strAt_get (List.mem_range.1 hi)
    rw [h2, Option.all_some, Option.all_some]
    by_cases hi0 : i = 0
    ·subst hi0; rw [hl]; simp
    ·have : ((i : Int) == 0) = false := by simp; omega
     rw [this]; simp
   rw [e2]
   cases (List.range s.size).all fun i => (s[i]?).all fun c => letB c.toNat || !((i : Int) == 0) && digB c.toNat with
   | false => simp [Out.fin]
   | true =>
    simp only [if_true, Out.fin_go, orO, Option.bind_some, Bool.and_true, e0, e1, Bool.false_or]
    unfold kw
    generalize (s.toList == _ || (s.toList == _ || (s.toList == _ || s.toList == _))) = q
    cases q <;> rfl
/-! ### Numbers -/
def natS (r : RatA) : Bool := !r.neg && r.den == [1] && decide (r.num.length ≤ 20) && (r.num.getLast?).all (· != 0)
theorem last_idx {l : List Int} (h : l.length ≠ 0) (hl : l.length ≤ 9223372036854775807) : idx l (IntKind.wrap .i64 ((l.length : Int) - 1)) = l.getLast? := by
 have e : IntKind.wrap .i64 ((l.length : Int) - 1) = ((l.length - 1 : Nat) : Int) := by rw [w64 (by omega) (by omega)]; omega
 rw [e, idx_nat, List.getLast?_eq_getElem?]
theorem num_valid_eq {K : Nat} {l : List Int} {m : Int} (hm : m ≤ 10000) : num_valid K l m = some (decide ((l.length : Int) ≤ m) && (l.getLast?).all (· != 0)) := by
 unfold num_valid
 by_cases h : (l.length : Int) ≤ m
 ·rw [decide_eq_true h, if_pos rfl]
  by_cases h0 : l.length = 0
  ·have : l = [] := List.eq_nil_of_length_eq_zero h0
   subst this; rfl
  ·have e : ((l.length : Int) == 0) = false := int_ne0 h0
   rw [e, last_idx h0 (by omega)]
   cases hx : l.getLast? with
   | none => simp at hx; subst hx; simp at h0
   | some x => simp
 ·rw [decide_eq_false h]; simp
theorem num_Valid_eq {K : Nat} {r : RatA} (hd : r.den = [1]) (hn : r.neg = false) : num_Valid K r 4096 = some (decide ((r.num.length : Int) ≤ 4096) && (r.num.getLast?).all (· != 0)) := by
 unfold num_Valid
 have i0 : idx ([1] : List Int) 0 = some 1 := rfl
 simp only [num_valid_eq (show (4096 : Int) ≤ 10000 by omega), hd, hn, i0, Option.bind_some]
 generalize (decide ((r.num.length : Int) ≤ 4096) && (r.num.getLast?).all (· != 0)) = b
 cases b with
 | false => simp [outM, Out.fin]
 | true => cases hq : ((r.num.length : Int) == 0) <;> simp [outM, Out.fin]
theorem tree_natural_eq {K : Nat} {r : RatA} : tree_natural K r = some (natS r) := by
 unfold tree_natural natS
 cases hn : r.neg with
 | true => simp
 | false =>
  simp only [Bool.not_false, if_true, Bool.true_and]
  by_cases hd : r.den.length = 1
  ·obtain ⟨d, hd⟩ := List.length_eq_one_iff.1 hd
   have i0 : idx ([d] : List Int) 0 = some d := rfl
   simp only [hd, i0, Option.bind_some, List.length_singleton]
   by_cases h1 : d = 1
   ·subst h1
    have e : rat_Valid K r = some (decide ((r.num.length : Int) ≤ 4096) && (r.num.getLast?).all (· != 0)) := by
     unfold rat_Valid; rw [num_Valid_eq hd hn]; rfl
    by_cases h2 : r.num.length ≤ 20
    ·have e2 : decide ((r.num.length : Int) ≤ 20) = true := by simp; omega
     have e3 : decide ((r.num.length : Int) ≤ 4096) = true := by simp; omega
     simp [e, e2, e3, h2]
    ·have e2 : decide ((r.num.length : Int) ≤ 20) = false := by simp; omega
     simp [e2, h2]
   ·simp [h1]
  ·have e : ((r.den.length : Int) == 1) = false := by simp; omega
   have : (r.den == [1]) = false := by
    rw [beq_eq_false_iff_ne]; rintro h; rw [h] at hd; exact hd rfl
   rw [e, this]; simp
theorem r08_natural_eq {K : Nat} {r : RatA} : r08_natural K r = some (natS r) := by
 unfold r08_natural natS
 cases hn : r.neg with
 | true => simp [outM, Out.fin]
 | false =>
  simp only [Bool.not_false, Bool.false_eq_true, if_false, Bool.true_and]
  by_cases hd : r.den.length = 1
  ·obtain ⟨d, hd⟩ := List.length_eq_one_iff.1 hd
   have i0 : idx ([d] : List Int) 0 = some d := rfl
   simp only [hd, i0, Option.bind_some, List.length_singleton]
   by_cases h1 : d = 1
   ·subst h1
    by_cases h2 : r.num.length ≤ 20
    ·have e2 : decide ((20 : Int) < (r.num.length : Int)) = false := by simp; omega
     by_cases h0 : r.num.length = 0
     ·have : r.num = [] := List.eq_nil_of_length_eq_zero h0
      simp [e2, this, Out.fin]
     ·have e : ((r.num.length : Int) == 0) = false := int_ne0 h0
      cases hx : r.num.getLast? with
      | none => simp at hx; rw [hx] at h0; simp at h0
      | some x => simp [e2, e, last_idx h0 (by omega), hx, Out.fin, h2]
    ·have e2 : decide ((20 : Int) < (r.num.length : Int)) = true := by simp; omega
     simp [e2, h2, outM, Out.fin]
   ·simp [h1, outM, Out.fin]
  ·have e : ((r.den.length : Int) != 1) = true := by simp; omega
   have : (r.den == [1]) = false := by
    rw [beq_eq_false_iff_ne]; rintro h; rw [h] at hd; exact hd rfl
   rw [e, this]; simp [outM, Out.fin]
/-! ### Well-formed trees -/
def diffS : NodeA → Bool
 | .mk op _ _ kids => (op == 20 || (op == 21 || (op == 22 || (op == 23 || (op == 24 || (op == 25 || (op == 26 || (op == 27 || (op == 37 || op == 38))))))))) || (op == 29 || op == 30) && kids.attach.all fun ⟨k, _⟩ => diffS k
termination_by n => SizeOf.sizeOf n
decreasing_by exact NodeA.size_kid (by assumption)
def primS : NodeA → Bool
 | .mk op _ _ kids => (op == 3 || (op == 12 || op == 39)) || kids.attach.any fun ⟨k, _⟩ => primS k
termination_by n => SizeOf.sizeOf n
decreasing_by exact NodeA.size_kid (by assumption)
theorem diffS_eq (n : NodeA) : diffS n = ((n.op == 20 || (n.op == 21 || (n.op == 22 || (n.op == 23 || (n.op == 24 || (n.op == 25 || (n.op == 26 || (n.op == 27 || (n.op == 37 || n.op == 38))))))))) || (n.op == 29 || n.op == 30) && n.kids.all diffS) := by
 cases n with | mk o m r ks => rw [diffS]; simp [NodeA.op, NodeA.kids]
theorem primS_eq (n : NodeA) : primS n = ((n.op == 3 || (n.op == 12 || n.op == 39)) || n.kids.any primS) := by
 cases n with | mk o m r ks => rw [primS]; simp [NodeA.op, NodeA.kids]
theorem scan_kids {R : Type} {n : NodeA} {K : Nat} (hK : n.size ≤ K) (hb : n.size ≤ 4611686018427387904) (p : NodeA → Bool) (r : R) {f : (Int → Option (Out Unit R)) → Int → Option (Out Unit R)}
  (h1 : ∀ g (i : Nat) (x : NodeA), x ∈ n.kids → n.kids[i]? = some x → f g (i : Int) = if p x then g (IntKind.wrap .i64 ((i : Int) + 1)) else some (.out r))
  (h2 : ∀ g, f g (n.kids.length : Int) = some (.go ())) : iter K f 0 = some (if n.kids.all p then .go () else .out r) := by
 have hl := n.kids_lt
 have := scanG n.kids.length (fun i => (i : Int)) (fun i => (n.kids[i]?).all p) r () (f := f) (fun g i hi => by
  have hx : n.kids[i]? = some n.kids[i] := List.getElem?_eq_getElem hi
  rw [h1 g i _ (List.getElem_mem hi) hx, hx, w64s (by omega)]; rfl) h2 (K := K) (by omega) rfl
 rw [range_all] at this
 exact this
theorem lt_t {l : List NodeA} {i : Nat} {x : NodeA} (h : l[i]? = some x) : decide ((i : Int) < (l.length : Int)) = true := by
 have := (List.getElem?_eq_some_iff.1 h).1; simp; omega
theorem lt_f {k : Nat} : decide ((k : Int) < (k : Int)) = false := by simp
theorem tree_diff_eq {K : Nat} : ∀ (k : Nat) (n : NodeA), n.size ≤ k → n.size ≤ K → n.size ≤ 4611686018427387904 → iter k (fun self q => tree_differentiable_body K self q) n = some (diffS n) := by
 intro k
 induction k with
 | zero => intro n h; have := n.size_pos; omega
 | succ k ih =>
  intro n h hK hb
  rw [iter_succ, diffS_eq]
  generalize iter k (fun self q => tree_differentiable_body K self q) = S at ih ⊢
  unfold tree_differentiable_body
  simp only [orO', Option.bind_some]
  generalize (n.op == 20 || (n.op == 21 || (n.op == 22 || (n.op == 23 || (n.op == 24 || (n.op == 25 || (n.op == 26 || (n.op == 27 || (n.op == 37 || n.op == 38))))))))) = a
  generalize (n.op == 29 || n.op == 30) = b
  cases a with
  | true => rfl
  | false =>
   cases b with
   | false => rfl
   | true =>
    simp only [Bool.false_eq_true, if_false, if_true, Bool.false_or, Bool.true_and]
    refine ob _ (scan_kids hK hb diffS false (fun g i x hm hx => ?_) (fun g => ?_)) ?_
    ·have hs := NodeA.size_lt hm
     simp only [lt_t hx, if_true, idx_nat, hx, Option.bind_some, ih x (by omega) (by omega) (by omega), outM_eq]
     cases diffS x <;> rfl
    ·simp only [lt_f, Bool.false_eq_true, if_false]
    ·cases n.kids.all diffS <;> rfl
theorem tree_differentiable_eq {K : Nat} {n : NodeA} (hK : n.size ≤ K) (hb : n.size ≤ 4611686018427387904) : tree_differentiable K n = some (diffS n) := tree_diff_eq K n hK hK hb
theorem r08_diff_eq {K : Nat} : ∀ (k : Nat) (n : NodeA), n.size ≤ k → n.size ≤ K → n.size ≤ 4611686018427387904 → iter k (fun self q => r08_differential_body K self q) n = some (diffS n) := by
 intro k
 induction k with
 | zero => intro n h; have := n.size_pos; omega
 | succ k ih =>
  intro n h hK hb
  rw [iter_succ, diffS_eq]
  generalize iter k (fun self q => r08_differential_body K self q) = S at ih ⊢
  unfold r08_differential_body
  have e : (n.op == 20 || (n.op == 21 || (n.op == 22 || (n.op == 23 || (n.op == 24 || (n.op == 25 || (n.op == 26 || (n.op == 27 || (n.op == 37 || n.op == 38))))))))) = (n.op == 20 || (n.op == 21 || (decide (22 ≤ n.op) && decide (n.op ≤ 27) || (n.op == 37 || n.op == 38)))) := by
   rw [Bool.eq_iff_iff]; simp; omega
  rw [e]
  have e2 : ∀ {b c : Bool}, (if decide (22 ≤ n.op) = true then if decide (n.op ≤ 27) = true then some true else if b = true then some true else some c else if b = true then some true else some c) = some (decide (22 ≤ n.op) && decide (n.op ≤ 27) || (b || c)) := by
   intro b c; cases decide (22 ≤ n.op) <;> cases decide (n.op ≤ 27) <;> cases b <;> rfl
  simp only [e2]
  simp only [orO, Option.bind_some]
  generalize (n.op == 20 || (n.op == 21 || (decide (22 ≤ n.op) && decide (n.op ≤ 27) || (n.op == 37 || n.op == 38)))) = a
  generalize (n.op == 29 || n.op == 30) = b
  cases a with
  | true => rfl
  | false =>
   cases b with
   | false => rfl
   | true =>
    simp only [Bool.false_eq_true, if_false, if_true, Bool.false_or, Bool.true_and]
    refine ob _ (scan_kids hK hb diffS false (fun g i x hm hx => ?_) (fun g => ?_)) ?_
    ·have hs := NodeA.size_lt hm
     simp only [lt_t hx, if_true, idx_nat, hx, Option.bind_some, ih x (by omega) (by omega) (by omega), outM_eq]
     cases diffS x <;> rfl
    ·simp only [lt_f, Bool.false_eq_true, if_false]
    ·cases n.kids.all diffS <;> rfl
theorem r08_differential_eq {K : Nat} {n : NodeA} (hK : n.size ≤ K) (hb : n.size ≤ 4611686018427387904) : r08_differential K n = some (diffS n) := r08_diff_eq K n hK hK hb
theorem r08_prim_eq {K : Nat} : ∀ (k : Nat) (n : NodeA), n.size ≤ k → n.size ≤ K → n.size ≤ 4611686018427387904 → iter k (fun self q => r08_primed_body K self q) n = some (primS n) := by
 intro k
 induction k with
 | zero => intro n h; have := n.size_pos; omega
 | succ k ih =>
  intro n h hK hb
  rw [iter_succ, primS_eq]
  generalize iter k (fun self q => r08_primed_body K self q) = S at ih ⊢
  unfold r08_primed_body
  simp only [orO, Option.bind_some]
  generalize (n.op == 3 || (n.op == 12 || n.op == 39)) = a
  cases a with
  | true => rfl
  | false =>
   simp only [Bool.false_eq_true, if_false, Option.bind_some, Out.fin_go, Bool.false_or]
   refine ob _ (scan_kids hK hb (fun x => !primS x) true (fun g i x hm hx => ?_) (fun g => ?_)) ?_
   ·have hs := NodeA.size_lt hm
    simp only [lt_t hx, if_true, idx_nat, hx, Option.bind_some, ih x (by omega) (by omega) (by omega), outM_eq]
    cases primS x <;> rfl
   ·simp only [lt_f, Bool.false_eq_true, if_false]
   ·have : (n.kids.all fun x => !primS x) = !n.kids.any primS := by rw [List.not_any_eq_all_not]
    rw [this]
    cases n.kids.any primS <;> rfl
theorem r08_primed_eq {K : Nat} {n : NodeA} (hK : n.size ≤ K) (hb : n.size ≤ 4611686018427387904) : r08_primed K n = some (primS n) := r08_prim_eq K n hK hK hb
abbrev big : Nat := 1099511627776
/-! ### Size, Levels, within -/
theorem sum_take {α : Type} {l : List α} {f : α → Nat} {i : Nat} {x : α} (h : l[i]? = some x) : ((l.take (i + 1)).map f).sum = ((l.take i).map f).sum + f x := by
 rw [List.take_add_one, h]; simp
theorem sum_take_le {α : Type} {l : List α} {f : α → Nat} : ∀ {i : Nat}, ((l.take i).map f).sum ≤ (l.map f).sum := by
 induction l with
 | nil => intro i; simp
 | cons x l ih => intro i; cases i with
  | zero => simp
  | succ i => rw [List.take_succ_cons, List.map_cons, List.map_cons, List.sum_cons, List.sum_cons]; have := ih (i := i); omega
theorem Size_iter {K : Nat} : ∀ (k : Nat) (n : NodeA), n.size ≤ k → n.size ≤ K → n.size ≤ big → iter k (fun self q => r08_Size_body K self q) n = some (n.size : Int) := by
 intro k
 induction k with
 | zero => intro n h; have := n.size_pos; omega
 | succ k ih =>
  intro n h hK hb
  rw [iter_succ]
  generalize iter k (fun self q => r08_Size_body K self q) = S at ih ⊢
  unfold r08_Size_body
  have hl := n.kids_lt
  have hsz : n.size = 1 + (n.kids.map NodeA.size).sum := by cases n with | mk o m r ks => rw [NodeA.size_mk]; rfl
  have hb' : n.size ≤ 1099511627776 := hb
  refine ob _ (foldG n.kids.length (fun i => (((1 + ((n.kids.take i).map NodeA.size).sum : Nat) : Int), (i : Int))) (n.size : Int) (fun g i hi => ?_) (fun g => ?_) (by omega) rfl) rfl
  ·have hx : n.kids[i]? = some n.kids[i] := List.getElem?_eq_getElem hi
   have hm := List.getElem_mem hi
   have hs := NodeA.size_lt hm
   have h1 := sum_take (f := NodeA.size) hx
   have h2 := sum_take_le (l := n.kids) (f := NodeA.size) (i := i + 1)
   simp only [lt_t hx, if_true, idx_nat, hx, Option.bind_some, ih _ (show n.kids[i].size ≤ k by omega) (by omega) (by omega)]
   rw [w64s (by omega), w64 (by omega) (by omega), h1]
   congr 2
   omega
  ·simp only [lt_f, Bool.false_eq_true, if_false, List.take_length, hsz]
theorem r08_Size_eq {K : Nat} {n : NodeA} (hK : n.size ≤ K) (hb : n.size ≤ big) : r08_Size K n = some (n.size : Int) := Size_iter K n hK hK hb
theorem lev_eq (n : NodeA) : n.lev = 1 + (n.kids.map NodeA.lev).foldl max 0 := by cases n with | mk o m r ks => rw [NodeA.lev_mk]; rfl
theorem Levels_iter {K : Nat} : ∀ (k : Nat) (n : NodeA), n.size ≤ k → n.size ≤ K → n.size ≤ big → iter k (fun self q => r08_Levels_body K self q) n = some (n.lev : Int) := by
 intro k
 induction k with
 | zero => intro n h; have := n.size_pos; omega
 | succ k ih =>
  intro n h hK hb
  rw [iter_succ]
  generalize iter k (fun self q => r08_Levels_body K self q) = S at ih ⊢
  unfold r08_Levels_body
  have hl := n.kids_lt
  have hll := n.lev_le_size
  have hb' : n.size ≤ 1099511627776 := hb
  refine ob (((n.kids.map NodeA.lev).foldl max 0 : Nat) : Int) (foldG n.kids.length (fun i => (((((n.kids.take i).map NodeA.lev).foldl max 0 : Nat) : Int), (i : Int))) _ (fun g i hi => ?_) (fun g => ?_) (by omega) rfl) ?_
  ·have hx : n.kids[i]? = some n.kids[i] := List.getElem?_eq_getElem hi
   have hm := List.getElem_mem hi
   have hs := NodeA.size_lt hm
   simp only [lt_t hx, if_true, idx_nat, hx, Option.bind_some, ih _ (show n.kids[i].size ≤ k by omega) (by omega) (by omega)]
   rw [w64s (by omega), List.take_add_one, hx]
   congr 2
   simp only [Option.toList_some, List.map_append, List.map_cons, List.map_nil, List.foldl_append, List.foldl_cons, List.foldl_nil]
   split <;> omega
  ·simp only [lt_f, Bool.false_eq_true, if_false, List.take_length]
  ·rw [lev_eq] at hll ⊢
   rw [w64 (by omega) (by omega)]
   congr 1
   omega
theorem r08_Levels_eq {K : Nat} {n : NodeA} (hK : n.size ≤ K) (hb : n.size ≤ big) : r08_Levels K n = some (n.lev : Int) := Levels_iter K n hK hK hb
def Within (n : NodeA) (L v : Int) (r : Bool × Int) : Prop := if (n.size : Int) ≤ L ∧ (n.lev : Int) ≤ v then r = (true, L - n.size) else r.1 = false
theorem foldl_max_le {l : List Nat} {v : Nat} : l.foldl max 0 ≤ v ↔ ∀ x ∈ l, x ≤ v := by
 induction l with
 | nil => simp
 | cons y l ih => rw [List.foldl_cons, foldl_max]; simp only [List.mem_cons, forall_eq_or_imp]; rw [← ih]; omega
theorem within_iter {K : Nat} : ∀ (k : Nat) (n : NodeA) (L v : Int), n.size ≤ k → n.size ≤ K → n.size ≤ big → 0 ≤ L → L ≤ 1000000 → -1000000 ≤ v → v ≤ 1000000 → v - n.size ≥ -1152921504606846976 → ∃ r, iter k (fun self q => tree_within_body K self q.1 q.2.1 q.2.2) (n, L, v) = some r ∧ Within n L v r := by
 intro k
 induction k with
 | zero => intro n L v h; have := n.size_pos; omega
 | succ k ih =>
  intro n L v h hK hb hL hL' hv hv' hvs
  rw [iter_succ]
  generalize iter k (fun self q => tree_within_body K self q.1 q.2.1 q.2.2) = S at ih ⊢
  have hl := n.kids_lt
  have hp := n.size_pos
  have hlv := lev_eq n
  have hsz : n.size = 1 + (n.kids.map NodeA.size).sum := by cases n with | mk o m r ks => rw [NodeA.size_mk]; rfl
  have hb' : n.size ≤ 1099511627776 := hb
  have e1 : IntKind.wrap .i64 (L - 1) = L - 1 := w64 (by omega) (by omega)
  have e2 : IntKind.wrap .i64 (v - 1) = v - 1 := w64 (by omega) (by omega)
  unfold tree_within_body
  simp only [e1, e2]
  by_cases hc : L - 1 < 0 ∨ v ≤ 0
  ·refine ⟨(false, L - 1), ?_, ?_⟩
   ·have : (if decide (L - 1 < 0) = true then some true else some (decide (v ≤ 0))) = some true := by
     rcases hc with h | h
     ·rw [decide_eq_true h]; rfl
     ·rw [decide_eq_true h]; split <;> rfl
    rw [this]; rfl
   ·unfold Within
    rw [if_neg]
    rintro ⟨h1, h2⟩
    rcases hc with h | h <;> omega
  ·have : (if decide (L - 1 < 0) = true then some true else some (decide (v ≤ 0))) = some false := by
    have h1 : decide (L - 1 < 0) = false := by simp; omega
    have h2 : decide (v ≤ 0) = false := by simp; omega
    rw [h1, h2]; rfl
   rw [this]
   simp only [Option.bind_some, Bool.false_eq_true, if_false, Out.fin_go]
   have hlev : (∀ x ∈ n.kids, (x.lev : Int) ≤ v - 1) ↔ (n.lev : Int) ≤ v := by
    rw [hlv]
    constructor
    ·intro hq
     have : (n.kids.map NodeA.lev).foldl max 0 ≤ (v - 1).toNat := foldl_max_le.2 fun x hx => by
      obtain ⟨y, hy, rfl⟩ := List.mem_map.1 hx
      have := hq y hy; omega
     omega
    ·intro hq x hx
     have := foldl_max_le.1 (Nat.le_refl ((n.kids.map NodeA.lev).foldl max 0)) _ (List.mem_map_of_mem hx)
     omega
   refine ex_ob (Exists.imp (fun o ho => ⟨ho.1, ?_⟩) (loopE (fun i (s : Int × Int) => s.1 = i ∧ 0 ≤ s.2 ∧ s.2 ≤ 1000000)
    (fun i s o => if ((((n.kids.drop i).map NodeA.size).sum : Nat) : Int) ≤ s.2 ∧ (∀ x ∈ n.kids.drop i, (x.lev : Int) ≤ v - 1) then o = .go (s.2 - ((((n.kids.drop i).map NodeA.size).sum : Nat) : Int)) else ∃ z, o = .out (false, z))
    n.kids.length (fun g i s hi hj hg => ?_) (fun g s hj => ?_) 0 (0, L - 1) ⟨rfl, by simp only; omega, by simp only; omega⟩ (Nat.zero_le _) (by omega)))
   ·have h2 := ho.2
    rw [List.drop_zero] at h2
    simp only at h2
    by_cases hc3 : ((((n.kids).map NodeA.size).sum : Nat) : Int) ≤ L - 1 ∧ ∀ x ∈ n.kids, (x.lev : Int) ≤ v - 1
    ·rw [if_pos hc3] at h2
     subst h2
     refine ⟨(true, L - n.size), ?_, ?_⟩
     ·simp only [Out.fin_go, hsz]; congr 2; omega
     ·unfold Within; rw [if_pos ⟨by omega, hlev.1 hc3.2⟩]
    ·rw [if_neg hc3] at h2
     obtain ⟨z, rfl⟩ := h2
     refine ⟨(false, z), rfl, ?_⟩
     unfold Within; rw [if_neg fun hq => hc3 ⟨by omega, hlev.2 hq.2⟩]
   ·obtain ⟨s1, M⟩ := s
    obtain ⟨rfl, hM, hM'⟩ := hj
    simp only at hM hM'
    have hx : n.kids[i]? = some n.kids[i] := List.getElem?_eq_getElem hi
    have hm := List.getElem_mem hi
    have hs := NodeA.size_lt hm
    have hbk : n.kids[i].size ≤ big := by unfold big; omega
    obtain ⟨r, hr, hw⟩ := ih n.kids[i] M (v - 1) (by omega) (by omega) hbk hM hM' (by omega) (by omega) (by omega)
    simp only [lt_t hx, if_true, idx_nat, hx, Option.bind_some, hr]
    have hdrop := List.drop_eq_getElem_cons hi
    have hsum : ((n.kids.drop i).map NodeA.size).sum = n.kids[i].size + ((n.kids.drop (i + 1)).map NodeA.size).sum := by rw [hdrop, List.map_cons, List.sum_cons]
    have hall : (∀ x ∈ n.kids.drop i, (x.lev : Int) ≤ v - 1) ↔ (n.kids[i].lev : Int) ≤ v - 1 ∧ ∀ x ∈ n.kids.drop (i + 1), (x.lev : Int) ≤ v - 1 := by rw [hdrop]; exact List.forall_mem_cons
    unfold Within at hw
    by_cases hok : (n.kids[i].size : Int) ≤ M ∧ (n.kids[i].lev : Int) ≤ v - 1
    ·rw [if_pos hok] at hw
     subst hw
     simp only [Bool.not_true, Bool.false_eq_true, if_false]
     rw [w64s (by omega)]
     obtain ⟨o, h1, h2⟩ := hg (((i + 1 : Nat) : Int), M - n.kids[i].size) ⟨rfl, by simp only; omega, by simp only; omega⟩
     simp only at h2
     refine ⟨o, h1, ?_⟩
     by_cases hc2 : ((((n.kids.drop (i + 1)).map NodeA.size).sum : Nat) : Int) ≤ M - n.kids[i].size ∧ ∀ x ∈ n.kids.drop (i + 1), (x.lev : Int) ≤ v - 1
     ·rw [if_pos hc2] at h2
      rw [if_pos ⟨by rw [hsum]; omega, hall.2 ⟨hok.2, hc2.2⟩⟩, h2, hsum]
      congr 1
      omega
     ·rw [if_neg hc2] at h2
      rw [if_neg fun hq => hc2 ⟨by rw [hsum] at hq; omega, (hall.1 hq.2).2⟩]
      exact h2
    ·rw [if_neg hok] at hw
     rw [hw]
     refine ⟨.out (false, r.2), rfl, ?_⟩
     rw [if_neg fun hq => hok ⟨by rw [hsum] at hq; omega, (hall.1 hq.2).1⟩]
     exact ⟨_, rfl⟩
   ·obtain ⟨s1, M⟩ := s
    obtain ⟨rfl, hM, hM'⟩ := hj
    simp only at hM hM'
    refine ⟨.go M, by simp only [lt_f, Bool.false_eq_true, if_false], ?_⟩
    rw [List.drop_length, if_pos ⟨by simpa using hM, fun x hx => by cases hx⟩]; simp
theorem tree_within_eq {K : Nat} {n : NodeA} (hK : n.size ≤ K) (hb : n.size ≤ big) : ∃ r, tree_within K n 4000 60 = some r ∧ Within n 4000 60 r :=
 within_iter K n 4000 60 hK hK hb (by omega) (by omega) (by omega) (by omega) (by unfold big at hb; omega)
/-! ### formed and well -/
abbrev emptyB (s : ByteArray) : Bool := s.toList == (⟨#[]⟩ : ByteArray).toList
theorem emptyB_name {s : ByteArray} (h : emptyB s = true) : nameB s = false := by
 have : s = ⟨#[]⟩ := bytes_eq.1 h
 subst this; rfl
def numC (n : NodeA) : Bool := if n.op == 1 then natS n.num else !(n.num.neg || (decide (0 < (n.num.num.length : Int)) || decide (0 < (n.num.den.length : Int))))
def nameC (n : NodeA) : Bool := if namedS n.op || (n.op == 10 || n.op == 37) then nameB n.name else emptyB n.name
def flowK (kids : List NodeA) (i : Nat) : Bool := (kids[i]?).all fun x => !(x.op != 55 && (x.op != 56 || (i : Int) != ((kids.length - 2 : Nat) : Int))) && (kids.take i).all fun y => !(x.op == 55 && y.name.toList == x.name.toList)
def stC (n : NodeA) (d fd fl : Bool) : Bool :=
 if n.op == 10 || n.op == 37 then decide (n.kids.length ≤ 1)
 else if n.op == 54 then decide (2 ≤ n.kids.length) && (List.range (n.kids.length - 1)).all (flowK n.kids)
 else if n.op == 3 then !(d || (fd || fl))
 else if n.op == 12 then !(d || fl)
 else if n.op == 39 then !(fl || (((n.kids.length : Int) != 1) || !((n.kids[0]?).all diffS)))
 else true
def sortsC (n : NodeA) : List Int :=
 if n.op == 10 || n.op == 37 then List.replicate n.kids.length 1
 else if n.op == 54 then List.replicate (n.kids.length - 1) 4 ++ [2]
 else (sortsS n.op).getD []
def lastC (n : NodeA) : Bool :=
 if n.op == 8 then (n.kids[1]?).all fun x => x.op == 1 && decide (0 < (x.num.num.length : Int))
 else if n.op == 9 then (n.kids[1]?).all fun x => x.op == 1 && (((x.num.num.length : Int) == 0) || ((x.num.num.length : Int) == 1) && (x.num.num[0]?).all fun w => decide (w ≤ 20))
 else true
def okS : NodeA → Bool → Bool → Bool → Bool
 | .mk op name num kids, d, fd, fl =>
  numC (.mk op name num kids) && (nameC (.mk op name num kids) && (stC (.mk op name num kids) d fd fl && ((kids.map fun x => sortS x.op) == sortsC (.mk op name num kids) && ((kids.attach.all fun ⟨k, _⟩ => okS k (d || op == 12) (fd || op == 39) (fl || op == 54)) && lastC (.mk op name num kids)))))
termination_by n => SizeOf.sizeOf n
decreasing_by exact NodeA.size_kid (by assumption)
theorem okS_eq (n : NodeA) (d fd fl : Bool) : okS n d fd fl = (numC n && (nameC n && (stC n d fd fl && ((n.kids.map fun x => sortS x.op) == sortsC n && (n.kids.all (fun k => okS k (d || n.op == 12) (fd || n.op == 39) (fl || n.op == 54)) && lastC n))))) := by
 cases n with
 | mk o m r ks =>
  rw [okS]
  have : (ks.attach.all fun x => match x with | ⟨k, _⟩ => okS k (d || o == 12) (fd || o == 39) (fl || o == 54)) = ks.all (fun k => okS k (d || o == 12) (fd || o == 39) (fl || o == 54)) := by
   rw [Bool.eq_iff_iff]; simp [List.all_eq_true]
  rw [this]; rfl
theorem num_join {K : Nat} {n : NodeA} : (if (n.op == (1 : Int)) then (tree_natural K n.num).bind fun r4 => if (!r4) then outM (some false) else some (.go ()) else
   ((if n.num.neg then some true else if (decide ((0 : Int) < (n.num.num.length : Int))) then some true else some (decide ((0 : Int) < (n.num.den.length : Int)))) : Option Bool).bind (fun v7_0 => if v7_0 then outM (some false) else some (.go ())) : Option (Out Unit Bool)) = some (if numC n then .go () else .out false) := by
 unfold numC
 simp only [tree_natural_eq, Option.bind_some, orO, outM_eq]
 cases (n.op == 1) <;> cases natS n.num <;> cases (n.num.neg || (decide (0 < (n.num.num.length : Int)) || decide (0 < (n.num.den.length : Int)))) <;> rfl
theorem num_join' {K : Nat} {n : NodeA} : (if (n.op == (1 : Int)) then (r08_natural K n.num).bind fun r4 => if (!r4) then outM (some false) else some (.go ()) else
   ((if n.num.neg then some true else if (decide ((0 : Int) < (n.num.num.length : Int))) then some true else some (decide ((0 : Int) < (n.num.den.length : Int)))) : Option Bool).bind (fun v7_0 => if v7_0 then outM (some false) else some (.go ())) : Option (Out Unit Bool)) = some (if numC n then .go () else .out false) := by
 unfold numC
 simp only [r08_natural_eq, Option.bind_some, orO, outM_eq]
 cases (n.op == 1) <;> cases natS n.num <;> cases (n.num.neg || (decide (0 < (n.num.num.length : Int)) || decide (0 < (n.num.den.length : Int)))) <;> rfl
theorem app_one {i : Nat} {x : Int} (h : i ≤ big) : appO 8 (List.replicate i x) [x] = some (List.replicate (i + 1) x) := by
 unfold appO big at *
 rw [if_pos (by simp; omega), List.replicate_succ']
theorem map_eq {n : NodeA} {l : List Int} (hl : n.kids.length = l.length) (q : NodeA → Bool) :
  ((List.range n.kids.length).all fun i => (n.kids[i]?).all fun x => (l[i]?).all fun s => !(sortS x.op != s) && q x) = (((n.kids.map fun x => sortS x.op) == l) && n.kids.all q) := by
 rw [Bool.eq_iff_iff]
 simp only [List.all_eq_true, List.mem_range, Bool.and_eq_true, beq_iff_eq]
 constructor
 ·intro h
  have get : ∀ i (hi : i < n.kids.length), sortS n.kids[i].op = l[i]'(by omega) ∧ q n.kids[i] = true := fun i hi => by
   have := h i hi
   rw [List.getElem?_eq_getElem hi, List.getElem?_eq_getElem (show i < l.length by omega)] at this
   simpa using this
  refine ⟨List.ext_getElem (by simpa using hl) fun i h1 h2 => ?_, fun x hx => ?_⟩
  ·rw [List.getElem_map]; exact (get i (by simpa using h1)).1
  ·obtain ⟨i, hi, rfl⟩ := List.mem_iff_getElem.1 hx
   exact (get i hi).2
 ·rintro ⟨rfl, h⟩ i hi
  have hx : n.kids[i]? = some n.kids[i] := List.getElem?_eq_getElem hi
  simp [hx, h _ (List.getElem_mem hi)]
theorem formed_iter {K : Nat} (hK : 12 < K) : ∀ (k : Nat) (n : NodeA) (at' : Tree_placeA), n.size ≤ k → n.size ≤ K → n.size ≤ big → sortS n.op ≠ 0 →
  iter k (fun self q => tree_formed_body K self q.1 q.2) (n, at') = some (okS n at'.inDiff at'.inFDiff at'.inFlow) := by
 intro k
 induction k with
 | zero => intro n a h; have := n.size_pos; omega
 | succ k ih =>
  intro n a h hK2 hb hsort
  rw [iter_succ, okS_eq]
  generalize iter k (fun self q => tree_formed_body K self q.1 q.2) = S at ih ⊢
  obtain ⟨d, fd, fl⟩ := a
  have hl := n.kids_lt
  have htab := tab hsort
  have hbig : n.size ≤ 1099511627776 := hb
  unfold tree_formed_body
  refine ob _ num_join ?_
  cases hA : numC n with
  | false => rfl
  | true =>
  simp only [if_true, Out.fin_go, tree_shape_eq, Option.bind_some, tree_Name_eq hK, Bool.true_and]
  refine ob (if (namedS n.op && nameB n.name || !namedS n.op && (emptyB n.name || (n.op == 10 || n.op == 37))) then .go () else .out false) ?_ ?_
  ·have e10 : (n.op != 10) = !(n.op == 10) := rfl
   have e37 : (n.op != 37) = !(n.op == 37) := rfl
   rw [e10, e37]
   generalize (n.op == 10) = b10
   generalize (n.op == 37) = b37
   have : (n.name.toList == (⟨#[]⟩ : ByteArray).toList) = emptyB n.name := rfl
   rw [this]
   cases namedS n.op <;> cases nameB n.name <;> cases emptyB n.name <;> cases b10 <;> cases b37 <;> rfl
  cases hB : (namedS n.op && nameB n.name || !namedS n.op && (emptyB n.name || (n.op == 10 || n.op == 37))) with
  | false =>
   have : nameC n = false := by
    unfold nameC
    revert hB
    cases namedS n.op <;> cases nameB n.name <;> cases emptyB n.name <;> cases (n.op == 10 || n.op == 37) <;> simp
   rw [this]; rfl
  | true =>
  simp only [if_true, Out.fin_go]
  -- the places
  refine ob (if (!(n.op == 10 || n.op == 37) || nameB n.name) && stC n d fd fl then .go (sortsC n, (⟨d || n.op == 12, fd || n.op == 39, fl || n.op == 54⟩ : Tree_placeA)) else .out false) ?_ ?_
  ·by_cases h10 : (n.op == 10 || n.op == 37) = true
   ·obtain ⟨hs0, hn0⟩ := htab.2.2.2.1 (by rw [h10]; rfl)
    have o12 : (n.op == 12) = false := by rw [Bool.eq_false_iff]; intro hc; simp at hc h10; omega
    have o39 : (n.op == 39) = false := by rw [Bool.eq_false_iff]; intro hc; simp at hc h10; omega
    have o54 : (n.op == 54) = false := by rw [Bool.eq_false_iff]; intro hc; simp at hc h10; omega
    have e : stC n d fd fl = decide (n.kids.length ≤ 1) := by unfold stC; rw [if_pos h10]
    have e2 : sortsC n = List.replicate n.kids.length 1 := by unfold sortsC; rw [if_pos h10]
    rw [e, e2, o12, o39, o54, h10, Bool.not_true, Bool.false_or, Bool.or_false, Bool.or_false, Bool.or_false]
    simp only [orO', h10, Option.bind_some, if_true]
    cases hnm : nameB n.name with
    | false => rfl
    | true =>
     by_cases h1 : n.kids.length ≤ 1
     ·have hd : decide ((1 : Int) < (n.kids.length : Int)) = false := by simp; omega
      simp only [Bool.not_true, Bool.false_eq_true, if_false, hd, Option.bind_some, Out.fin_go, hs0, Option.isNone_none, must, if_true, Bool.true_and, decide_eq_true h1]
      refine ob _ (foldG n.kids.length (fun i => ((i : Int), List.replicate i (1 : Int))) (List.replicate n.kids.length 1) (fun g i hi => ?_) (fun g => ?_) (by omega) rfl) rfl
      ·have hx : n.kids[i]? = some n.kids[i] := List.getElem?_eq_getElem hi
       simp only [lt_t hx, if_true, app_one (show i ≤ big by unfold big; omega), Option.bind_some]
       rw [w64s (by omega)]
      ·simp only [lt_f, Bool.false_eq_true, if_false]
     ·have hd : decide ((1 : Int) < (n.kids.length : Int)) = true := by simp; omega
      have hd2 : decide (n.kids.length ≤ 1) = false := by simp; omega
      simp only [Bool.not_true, Bool.false_eq_true, if_false, hd, Option.bind_some, hd2, Bool.and_false]
      rfl
   ·have h10' : (n.op == 10 || n.op == 37) = false := by simpa using h10
    rw [h10', Bool.not_false, Bool.true_or, Bool.true_and]
    simp only [orO', h10', Option.bind_some, Bool.false_eq_true, if_false]
    by_cases h54 : (n.op == 54) = true
    ·obtain ⟨hs0, hn0⟩ := htab.2.2.2.1 (by rw [h54]; simp)
     have o12 : (n.op == 12) = false := by rw [Bool.eq_false_iff]; intro hc; simp at hc h54; omega
     have o39 : (n.op == 39) = false := by rw [Bool.eq_false_iff]; intro hc; simp at hc h54; omega
     have e : stC n d fd fl = (decide (2 ≤ n.kids.length) && (List.range (n.kids.length - 1)).all (flowK n.kids)) := by unfold stC; rw [h10', h54]; rfl
     have e2 : sortsC n = List.replicate (n.kids.length - 1) 4 ++ [2] := by unfold sortsC; rw [h10', h54]; rfl
     have he : emptyB n.name = true := by
      revert hB; rw [hn0, h10']; simp
     have he' : (n.name.toList == (⟨#[]⟩ : ByteArray).toList) = true := he
     rw [e, e2, o12, o39, h54, Bool.or_true, Bool.or_false, Bool.or_false]
     simp only [if_true, he', Bool.not_true, Bool.false_eq_true, if_false]
     by_cases h2 : 2 ≤ n.kids.length
     ·have hd : decide ((n.kids.length : Int) < 2) = false := by simp; omega
      have e3 : IntKind.wrap .i64 ((n.kids.length : Int) - 1) = ((n.kids.length - 1 : Nat) : Int) := by rw [w64 (by omega) (by omega)]; omega
      have e4 : IntKind.wrap .i64 (((n.kids.length - 1 : Nat) : Int) - 1) = ((n.kids.length - 2 : Nat) : Int) := by rw [w64 (by omega) (by omega)]; omega
      simp only [hd, Bool.false_eq_true, if_false, Option.bind_some, Out.fin_go, hs0, Option.isNone_none, must, if_true, e3, e4, decide_eq_true h2, Bool.true_and]
      refine ob _ (scanG (n.kids.length - 1) (fun i => ((i : Int), List.replicate i (4 : Int))) (flowK n.kids) (Out.out false : Out (List Int × Tree_placeA) Bool) (List.replicate (n.kids.length - 1) 4) (fun g i hi => ?_) (fun g => ?_) (by omega) rfl) ?_
      ·have hi' : i < n.kids.length := by omega
       have hx : n.kids[i]? = some n.kids[i] := List.getElem?_eq_getElem hi'
       have hd : decide ((i : Int) < ((n.kids.length - 1 : Nat) : Int)) = true := by simp; omega
       have hcut : cutL n.kids none (some (i : Int)) = some (n.kids.take i) := by
        unfold cutL; simp only [Option.getD_some, Option.getD_none]
        rw [if_pos (by omega)]; simp
       simp only [hd, if_true, idx_nat, hx, Option.bind_some, hcut]
       have hC : flowK n.kids i = (!(n.kids[i].op != 55 && (n.kids[i].op != 56 || (i : Int) != ((n.kids.length - 2 : Nat) : Int))) && (n.kids.take i).all fun y => !(n.kids[i].op == 55 && y.name.toList == n.kids[i].name.toList)) := by unfold flowK; rw [hx]; rfl
       rw [hC, w64s (by omega)]
       simp only [orO, andO, Option.bind_some]
       refine ob (if (!(n.kids[i].op != 55 && (n.kids[i].op != 56 || (i : Int) != ((n.kids.length - 2 : Nat) : Int))) && (n.kids.take i).all fun y => !(n.kids[i].op == 55 && y.name.toList == n.kids[i].name.toList)) then .go (List.replicate (i + 1) 4) else .out (.out (.out false))) ?_ ?_
       ·cases hb : (n.kids[i].op != 55 && (n.kids[i].op != 56 || (i : Int) != ((n.kids.length - 2 : Nat) : Int))) with
        | true => rfl
        | false =>
         simp only [Option.bind_some, Bool.false_eq_true, if_false, Out.fin_go, Bool.not_false, Bool.true_and]
         have hti : (n.kids.take i).length = i := by rw [List.length_take]; omega
         refine ob _ (scanG (n.kids.take i).length (fun j => (j : Int)) (fun j => ((n.kids.take i)[j]?).all fun y => !(n.kids[i].op == 55 && y.name.toList == n.kids[i].name.toList)) (.out (.out (.out false))) () (fun g' j hj => ?_) (fun g' => ?_) (by omega) rfl) ?_
         ·have hy : (n.kids.take i)[j]? = some (n.kids.take i)[j] := List.getElem?_eq_getElem hj
          simp only [lt_t hy, if_true, idx_nat, hy, Option.bind_some, Option.all_some]
          rw [w64s (by omega)]
          cases (n.kids[i].op == 55 && (n.kids.take i)[j].name.toList == n.kids[i].name.toList) <;> rfl
         ·simp only [lt_f, Bool.false_eq_true, if_false]
         ·rw [range_all]
          cases ((n.kids.take i).all fun y => !(n.kids[i].op == 55 && y.name.toList == n.kids[i].name.toList)) with
          | false => rfl
          | true => simp only [if_true, Out.fin_go, app_one (show i ≤ big by unfold big; omega), Option.bind_some]
       ·cases (!(n.kids[i].op != 55 && (n.kids[i].op != 56 || (i : Int) != ((n.kids.length - 2 : Nat) : Int))) && (n.kids.take i).all fun y => !(n.kids[i].op == 55 && y.name.toList == n.kids[i].name.toList)) <;> rfl
      ·have hd : decide (((n.kids.length - 1 : Nat) : Int) < ((n.kids.length - 1 : Nat) : Int)) = false := by simp
       simp only [hd, Bool.false_eq_true, if_false]
      ·cases (List.range (n.kids.length - 1)).all (flowK n.kids) with
       | false => rfl
       | true =>
        simp only [if_true, Out.fin_go, appO]
        rw [if_pos (by simp; omega)]; rfl
     ·have hd : decide ((n.kids.length : Int) < 2) = true := by simp; omega
      have hd2 : decide (2 ≤ n.kids.length) = false := by simp; omega
      simp only [hd, hd2, if_true, Option.bind_some, Bool.false_and]
      rfl
    ·have h54' : (n.op == 54) = false := by simpa using h54
     have e2 : sortsC n = (sortsS n.op).getD [] := by unfold sortsC; rw [h10', h54']; rfl
     have e1 : stC n d fd fl = if n.op == 3 then !(d || (fd || fl)) else if n.op == 12 then !(d || fl) else if n.op == 39 then !(fl || (((n.kids.length : Int) != 1) || !((n.kids[0]?).all diffS))) else true := by
      unfold stC; rw [h10', h54']; rfl
     rw [e1, e2, h54', Bool.or_false]
     simp only [Bool.false_eq_true, if_false]
     by_cases h3 : (n.op == 3) = true
     ·have o12 : (n.op == 12) = false := by rw [Bool.eq_false_iff]; intro hc; simp at hc h3; omega
      have o39 : (n.op == 39) = false := by rw [Bool.eq_false_iff]; intro hc; simp at hc h3; omega
      simp only [h3, o12, o39, if_true, Bool.or_false]
      cases d <;> cases fd <;> cases fl <;> rfl
     have h3' : (n.op == 3) = false := by simpa using h3
     by_cases h12 : (n.op == 12) = true
     ·have o39 : (n.op == 39) = false := by rw [Bool.eq_false_iff]; intro hc; simp at hc h12; omega
      simp only [h3', h12, o39, if_true, Bool.or_false, Bool.or_true, Bool.false_eq_true, if_false]
      cases d <;> cases fd <;> cases fl <;> rfl
     have h12' : (n.op == 12) = false := by simpa using h12
     by_cases h39 : (n.op == 39) = true
     ·simp only [h3', h12', h39, if_true, Bool.or_false, Bool.or_true, Bool.false_eq_true, if_false]
      cases fl with
      | true => rfl
      | false =>
       by_cases hk : n.kids.length = 1
       ·have hx : n.kids[0]? = some n.kids[0] := List.getElem?_eq_getElem (by omega)
        have hm : n.kids[0] ∈ n.kids := List.getElem_mem (by omega)
        have hs := NodeA.size_lt hm
        have i0 : idx n.kids 0 = some n.kids[0] := by rw [← hx]; exact idx_nat (k := 0)
        have e : ((n.kids.length : Int) != 1) = false := by simp [hk]
        simp only [e, Bool.false_eq_true, if_false, i0, hx, Option.bind_some, Option.all_some, tree_differentiable_eq (show n.kids[0].size ≤ K by omega) (show n.kids[0].size ≤ 4611686018427387904 by omega)]
        cases diffS n.kids[0] <;> cases d <;> cases fd <;> rfl
       ·have e : ((n.kids.length : Int) != 1) = true := by simp; omega
        simp only [e, Bool.false_eq_true, if_false, if_true, Bool.false_or, Bool.true_or]
        rfl
     have h39' : (n.op == 39) = false := by simpa using h39
     simp only [h3', h12', h39', Bool.false_eq_true, if_false, if_true, Bool.or_false]
  cases hC : ((!(n.op == 10 || n.op == 37) || nameB n.name) && stC n d fd fl) with
  | false =>
   have : (nameC n && stC n d fd fl) = false := by
    unfold nameC
    revert hB hC
    cases namedS n.op <;> cases nameB n.name <;> cases emptyB n.name <;> cases (n.op == 10 || n.op == 37) <;> cases stC n d fd fl <;> simp
   rw [← Bool.and_assoc, this]; rfl
  | true =>
  have hN : nameC n = true := by
   unfold nameC
   revert hB hC
   cases namedS n.op <;> cases nameB n.name <;> cases emptyB n.name <;> cases (n.op == 10 || n.op == 37) <;> simp
  have hS : stC n d fd fl = true := by
   revert hC; cases stC n d fd fl <;> simp
  rw [hN, hS]
  simp only [if_true, Out.fin_go, Bool.true_and]
  have hne : ∀ s ∈ sortsC n, s ≠ 0 := by
   unfold sortsC
   split
   ·intro s hs; have := List.eq_of_mem_replicate hs; omega
   ·split
    ·intro s hs
     rcases List.mem_append.1 hs with hs | hs
     ·have := List.eq_of_mem_replicate hs; omega
     ·have := List.mem_singleton.1 hs; omega
    ·exact htab.2.2.2.2.2.2.2
  by_cases hlen : n.kids.length = (sortsC n).length
  ·have e : ((n.kids.length : Int) != ((sortsC n).length : Int)) = false := by rw [hlen]; simp
   simp only [e, Bool.false_eq_true, if_false]
   refine ob (if ((n.kids.map fun x => sortS x.op) == sortsC n && n.kids.all (fun k => okS k (d || n.op == 12) (fd || n.op == 39) (fl || n.op == 54))) then .go () else .out false) ?_ ?_
   ·rw [← map_eq hlen (fun k => okS k (d || n.op == 12) (fd || n.op == 39) (fl || n.op == 54))]
    refine scanG n.kids.length (fun i => (i : Int)) _ false () (fun g i hi => ?_) (fun g => ?_) (by omega) rfl
    ·have hx : n.kids[i]? = some n.kids[i] := List.getElem?_eq_getElem hi
     have hm := List.getElem_mem hi
     have hs := NodeA.size_lt hm
     have hbk : n.kids[i].size ≤ big := by unfold big; omega
     have hy : (sortsC n)[i]? = some ((sortsC n)[i]'(by omega)) := List.getElem?_eq_getElem (by omega)
     have hy0 := hne _ (List.getElem_mem (show i < (sortsC n).length by omega))
     simp only [lt_t hx, if_true, idx_nat, hx, hy, Option.bind_some, tree_Sort_eq, Option.all_some]
     generalize (sortsC n)[i]'(by omega) = s at hy0
     by_cases hq : sortS n.kids[i].op = s
     ·have e1 : (sortS n.kids[i].op != s) = false := by simp [hq]
      simp only [e1, Bool.false_eq_true, if_false, Bool.not_false, Bool.true_and, ih n.kids[i] ⟨d || n.op == 12, fd || n.op == 39, fl || n.op == 54⟩ (by omega) (by omega) hbk (by rw [hq]; exact hy0), Option.bind_some]
      rw [w64s (by omega)]
      cases okS n.kids[i] (d || n.op == 12) (fd || n.op == 39) (fl || n.op == 54) <;> rfl
     ·have e1 : (sortS n.kids[i].op != s) = true := by simp [hq]
      simp only [e1, if_true, Bool.not_true, Bool.false_and]
      rfl
    ·simp only [lt_f, Bool.false_eq_true, if_false]
   ·rw [← Bool.and_assoc ((n.kids.map fun x => sortS x.op) == sortsC n)]
    cases hD : ((n.kids.map fun x => sortS x.op) == sortsC n && n.kids.all (fun k => okS k (d || n.op == 12) (fd || n.op == 39) (fl || n.op == 54))) with
    | false => rfl
    | true =>
     simp only [if_true, Out.fin_go, Bool.true_and]
     unfold lastC
     by_cases h89 : (n.op == 8 || n.op == 9) = true
     ·have a10 : (n.op == 10 || n.op == 37) = false := by rw [Bool.eq_false_iff]; intro hc; simp at hc h89; omega
      have a54 : (n.op == 54) = false := by rw [Bool.eq_false_iff]; intro hc; simp at hc h89; omega
      have h2 : n.kids.length = 2 := by
       rw [hlen]; unfold sortsC
       rw [a10, a54, htab.2.2.2.2.2.1 h89]; rfl
      have hx : n.kids[1]? = some n.kids[1] := List.getElem?_eq_getElem (by omega)
      have i1 : idx n.kids 1 = some n.kids[1] := by rw [← hx]; exact idx_nat (k := 1)
      simp only [i1, hx, Option.bind_some, Option.all_some]
      cases (n.op == 8) with
      | true => cases (n.kids[1].op == 1) <;> rfl
      | false =>
       cases (n.op == 9) with
       | false => rfl
       | true =>
        simp only [Bool.false_eq_true, if_false, if_true]
        cases (n.kids[1].op == 1) with
        | false => rfl
        | true =>
         simp only [if_true, Bool.true_and]
         by_cases h0 : n.kids[1].num.num.length = 0
         ·rw [int_eq0 h0]; rfl
         ·have hw : n.kids[1].num.num[0]? = some n.kids[1].num.num[0] := List.getElem?_eq_getElem (by omega)
          have i0 : idx n.kids[1].num.num 0 = some n.kids[1].num.num[0] := by rw [← hw]; exact idx_nat (k := 0)
          simp only [int_ne0 h0, Bool.false_eq_true, if_false, Bool.false_or, i0, hw, Option.bind_some, Option.all_some, andO]
     ·have h8 : (n.op == 8) = false := by revert h89; cases (n.op == 8) <;> simp
      have h9 : (n.op == 9) = false := by revert h89; cases (n.op == 9) <;> simp
      rw [h8, h9]; rfl
  ·have e : ((n.kids.length : Int) != ((sortsC n).length : Int)) = true := by simp; omega
   have e2 : ((n.kids.map fun x => sortS x.op) == sortsC n) = false := by
    rw [beq_eq_false_iff_ne]; intro hq; apply hlen; rw [← hq]; simp
   rw [e, e2]; rfl
theorem okS_fl : ∀ n d fd, okS n d fd true = (okS n d fd false && !primS n) := by
 refine NodeA.ind fun n ih d fd => ?_
 rw [okS_eq n d fd true, okS_eq n d fd false, primS_eq]
 have hk : n.kids.all (fun k => okS k (d || n.op == 12) (fd || n.op == 39) true) = (n.kids.all (fun k => okS k (d || n.op == 12) (fd || n.op == 39) false) && !n.kids.any primS) := by
  rw [Bool.eq_iff_iff, Bool.and_eq_true, List.all_eq_true, List.all_eq_true, Bool.not_eq_true', List.any_eq_false]
  constructor
  ·intro h
   refine ⟨fun x hx => ?_, fun x hx => ?_⟩ <;> (have := h x hx; rw [ih x hx] at this; revert this; cases okS x (d || n.op == 12) (fd || n.op == 39) false <;> cases primS x <;> simp)
  ·rintro ⟨h1, h2⟩ x hx
   rw [ih x hx, h1 x hx]
   have := h2 x hx
   revert this; cases primS x <;> simp
 have hst : stC n d fd true = (stC n d fd false && !(n.op == 3 || (n.op == 12 || n.op == 39))) := by
  unfold stC
  by_cases h1 : (n.op == 10 || n.op == 37) = true
  ·have a3 : (n.op == 3) = false := by rw [Bool.eq_false_iff]; intro hc; simp at hc h1; omega
   have a12 : (n.op == 12) = false := by rw [Bool.eq_false_iff]; intro hc; simp at hc h1; omega
   have a39 : (n.op == 39) = false := by rw [Bool.eq_false_iff]; intro hc; simp at hc h1; omega
   simp [h1, a3, a12, a39]
  ·have h1' : (n.op == 10 || n.op == 37) = false := by simpa using h1
   by_cases h2 : (n.op == 54) = true
   ·have a3 : (n.op == 3) = false := by rw [Bool.eq_false_iff]; intro hc; simp at hc h2; omega
    have a12 : (n.op == 12) = false := by rw [Bool.eq_false_iff]; intro hc; simp at hc h2; omega
    have a39 : (n.op == 39) = false := by rw [Bool.eq_false_iff]; intro hc; simp at hc h2; omega
    rw [h1', h2, a3, a12, a39]; simp
   ·have h2' : (n.op == 54) = false := by simpa using h2
    rw [h1', h2']
    cases (n.op == 3) <;> cases (n.op == 12) <;> cases (n.op == 39) <;> simp
 have hfl : (fun k => okS k (d || n.op == 12) (fd || n.op == 39) (true || n.op == 54)) = fun k => okS k (d || n.op == 12) (fd || n.op == 39) true := by funext k; rw [Bool.true_or]
 rw [hfl, hst]
 by_cases h54 : (n.op == 54) = true
 ·have a3 : (n.op == 3) = false := by rw [Bool.eq_false_iff]; intro hc; simp at hc h54; omega
  have a12 : (n.op == 12) = false := by rw [Bool.eq_false_iff]; intro hc; simp at hc h54; omega
  have a39 : (n.op == 39) = false := by rw [Bool.eq_false_iff]; intro hc; simp at hc h54; omega
  simp only [a12, a39, Bool.or_false] at hk
  simp only [h54, a3, a12, a39, Bool.or_true, Bool.or_false, Bool.not_false, Bool.and_true, Bool.false_or, hk]
  cases numC n <;> cases nameC n <;> cases stC n d fd false <;> cases ((n.kids.map fun x => sortS x.op) == sortsC n) <;> cases (n.kids.all fun k => okS k d fd false) <;> cases n.kids.any primS <;> cases lastC n <;> rfl
 ·have h54' : (n.op == 54) = false := by simpa using h54
  rw [h54', hk]
  simp only [Bool.or_false]
  cases numC n <;> cases nameC n <;> cases stC n d fd false <;> cases ((n.kids.map fun x => sortS x.op) == sortsC n) <;> cases (n.kids.all fun k => okS k (d || n.op == 12) (fd || n.op == 39) false) <;> cases n.kids.any primS <;> cases lastC n <;> cases (n.op == 3 || (n.op == 12 || n.op == 39)) <;> rfl
theorem Natural_eq {K : Nat} {r : RatA} (hw : r.words) : ∃ z, r08_Natural K r 20 = some z ∧ decide (0 ≤ z) = (((r.num.length : Int) == 0) || ((r.num.length : Int) == 1) && (r.num[0]?).all fun w => decide (w ≤ 20)) := by
 unfold r08_Natural
 by_cases h0 : r.num.length = 0
 ·have e : ((r.num.length : Int) == 0) = true := by simp [h0]
  exact ⟨0, by rw [e]; rfl, by rw [e]; rfl⟩
 have e : ((r.num.length : Int) == 0) = false := int_ne0 h0
 have hx : r.num[0]? = some r.num[0] := List.getElem?_eq_getElem (by omega)
 have i0 : idx r.num 0 = some r.num[0] := by rw [← hx]; exact idx_nat (k := 0)
 have hb := hw.1 r.num[0] (List.getElem_mem (by omega))
 have ew : IntKind.wrap .i64 r.num[0] = r.num[0] := w64 (by omega) (by omega)
 simp only [e, Bool.false_eq_true, if_false, i0, hx, Option.bind_some, ew, Option.all_some, Bool.false_or]
 by_cases h1 : r.num.length = 1
 ·have e1 : decide ((1 : Int) < (r.num.length : Int)) = false := by simp; omega
  have e2 : ((r.num.length : Int) == 1) = true := by simp [h1]
  simp only [e1, e2, Bool.false_eq_true, if_false, Option.bind_some, Bool.true_and]
  by_cases h2 : r.num[0] ≤ 20
  ·have e3 : decide ((20 : Int) < r.num[0]) = false := by simp; omega
   refine ⟨r.num[0], by rw [e3]; rfl, ?_⟩
   rw [decide_eq_true h2, decide_eq_true hb.1]
  ·have e3 : decide ((20 : Int) < r.num[0]) = true := by simp; omega
   refine ⟨-1, by rw [e3]; rfl, ?_⟩
   rw [decide_eq_false h2]; rfl
 ·have e1 : decide ((1 : Int) < (r.num.length : Int)) = true := by simp; omega
  have e2 : ((r.num.length : Int) == 1) = false := by simp; omega
  refine ⟨-1, by rw [e1]; rfl, ?_⟩
  rw [e2]; rfl
theorem flow_eq {n : NodeA} (h54 : n.op = 54) (t f : Bool) :
  (decide (2 ≤ n.kids.length) && (!n.kids.any primS && ((n.kids[n.kids.length - 1]?).all (fun x => sortS x.op == 2 && okS x t f false) && (List.range (n.kids.length - 1)).all fun i => (n.kids[i]?).all fun x =>
   !(x.op == 56 && decide ((i : Int) < ((n.kids.length - 2 : Nat) : Int)) || (x.op != 56 && x.op != 55 || !(sortS x.op == 4 && okS x t f false))) && (n.kids.take i).all fun y => !(x.op == 55 && y.name.toList == x.name.toList)))) =
  (stC n t f false && ((n.kids.map fun x => sortS x.op) == sortsC n && n.kids.all fun k => okS k t f true)) := by
 have e1 : (n.op == 10 || n.op == 37) = false := by rw [h54]; rfl
 have e2 : (n.op == 54) = true := by rw [h54]; rfl
 unfold stC sortsC
 rw [e1, e2]
 simp only [Bool.false_eq_true, if_false, if_true]
 by_cases h2 : 2 ≤ n.kids.length
 ·rw [decide_eq_true h2, Bool.true_and, Bool.true_and, Bool.eq_iff_iff]
  have hl : n.kids.length - 1 < n.kids.length := by omega
  rw [List.getElem?_eq_getElem hl, Option.all_some]
  simp only [Bool.and_eq_true, List.all_eq_true, Bool.not_eq_true', List.any_eq_false, List.mem_range, okS_fl]
  have hget : ∀ i (hi : i < n.kids.length), n.kids[i]? = some n.kids[i] := fun i hi => List.getElem?_eq_getElem hi
  have hmap : ((n.kids.map fun x => sortS x.op) == List.replicate (n.kids.length - 1) 4 ++ [2]) = true ↔ (sortS n.kids[n.kids.length - 1].op = 2 ∧ ∀ i (hi : i < n.kids.length - 1), sortS (n.kids[i]'(by omega)).op = 4) := by
   rw [beq_iff_eq]
   constructor
   ·intro h
    have hg : ∀ i (hi : i < n.kids.length), sortS n.kids[i].op = (List.replicate (n.kids.length - 1) (4 : Int) ++ [2])[i]'(by simp; omega) := fun i hi => by
     have : (n.kids.map fun x => sortS x.op)[i]'(by simpa using hi) = sortS n.kids[i].op := by simp
     rw [← this]
     congr 1
    refine ⟨?_, fun i hi => ?_⟩
    ·rw [hg _ hl, List.getElem_append_right (by simp)]; simp
    ·rw [hg i (by omega), List.getElem_append_left (by simpa using hi)]; simp
   ·rintro ⟨h3, h4⟩
    refine List.ext_getElem (by simp; omega) fun i hi1 hi2 => ?_
    rw [List.getElem_map]
    by_cases hi : i < n.kids.length - 1
    ·rw [List.getElem_append_left (by simpa using hi), List.getElem_replicate]; exact h4 i hi
    ·have : i = n.kids.length - 1 := by simp at hi1; omega
     subst this
     rw [List.getElem_append_right (by simp)]; simpa using h3
  rw [hmap]
  constructor
  ·rintro ⟨hp, ⟨hs, ho⟩, hall⟩
   have at' : ∀ i (hi : i < n.kids.length - 1), (!(n.kids[i].op == 56 && decide ((i : Int) < ((n.kids.length - 2 : Nat) : Int)) || (n.kids[i].op != 56 && n.kids[i].op != 55 || !(sortS n.kids[i].op == 4 && okS n.kids[i] t f false)))) = true ∧ ∀ y ∈ n.kids.take i, (n.kids[i].op == 55 && y.name.toList == n.kids[i].name.toList) = false := fun i hi => by
    have := hall i hi
    rw [hget i (by omega), Option.all_some] at this
    simpa only [Bool.and_eq_true, List.all_eq_true, Bool.not_eq_true'] using this
   refine ⟨fun i hi => ?_, ⟨by simpa using hs, fun i hi => ?_⟩, fun x hx => ?_⟩
   ·obtain ⟨h3, h4⟩ := at' i hi
    unfold flowK
    rw [hget i (by omega), Option.all_some, Bool.and_eq_true]
    refine ⟨?_, ?_⟩
    ·simp at h3 ⊢; omega
    ·simp only [List.all_eq_true, Bool.not_eq_true']; exact h4
   ·obtain ⟨h3, _⟩ := at' i hi
    simp at h3; exact h3.2.2.1
   ·obtain ⟨i, hi, rfl⟩ := List.mem_iff_getElem.1 hx
    refine ⟨?_, by simpa using hp _ hx⟩
    by_cases hi' : i < n.kids.length - 1
    ·obtain ⟨h3, _⟩ := at' i hi'
     simp at h3; exact h3.2.2.2
    ·have : i = n.kids.length - 1 := by omega
     subst this; exact ho
  ·rintro ⟨hf, ⟨hs, h4⟩, hk⟩
   refine ⟨fun x hx => by have := (hk x hx).2; simp [this], ⟨by simpa using hs, (hk _ (List.getElem_mem hl)).1⟩, fun i hi => ?_⟩
   have := hf i hi
   unfold flowK at this
   rw [hget i (by omega), Option.all_some] at this ⊢
   simp only [Bool.and_eq_true, List.all_eq_true, Bool.not_eq_true'] at this ⊢
   refine ⟨?_, this.2⟩
   have h5 := (hk _ (List.getElem_mem (show i < n.kids.length by omega))).1
   have h6 := h4 i hi
   have h7 := this.1
   simp at h7 ⊢
   refine ⟨by omega, by omega, h6, h5⟩
 ·rw [decide_eq_false h2]; rfl
def kidV (n : NodeA) : ByteArray := if (n.op == 10 || n.op == 37) then (if ((n.kids.length : Int) == 1) then ⟨#[49]⟩ else kidB n.op) else kidB n.op
def digs (v : ByteArray) : List Int := v.toList.map fun c => (c.toNat : Int) - 48
def lastW (n : NodeA) : Bool := if n.op == 39 then (n.kids[0]?).all diffS else lastC n
theorem size_toList (v : ByteArray) : v.toList.length = v.size := by rw [bytes_toList]; exact Array.length_toList
theorem strAt_list {v : ByteArray} {i : Nat} (h : i < v.size) : ∃ c : UInt8, strAt v (i : Int) = some c ∧ v.toList[i]? = some c := by
 refine ⟨v[i], (strAt_get h).1, ?_⟩
 rw [bytes_toList, Array.getElem?_toList]
 exact Array.getElem?_eq_getElem h
theorem kidV_ok {n : NodeA} (hs : sortS n.op ≠ 0) : (∀ c ∈ (kidV n).toList, 48 ≤ c.toNat ∧ c.toNat ≤ 57) ∧ (∀ z ∈ digs (kidV n), z ≠ 0) := by
 have htab := tab hs
 have h1 : ∀ c ∈ (⟨#[49]⟩ : ByteArray).toList, c = 49 := by
  intro c hc; rw [bytes_toList] at hc; exact List.mem_singleton.1 hc
 have hk : ∀ z ∈ digs (kidB n.op), z ≠ 0 := by unfold digs; rw [htab.2.1]; exact htab.2.2.2.2.2.2.2
 unfold kidV
 split
 ·split
  ·refine ⟨fun c hc => by rw [h1 c hc]; decide, fun z hz => ?_⟩
   unfold digs at hz
   obtain ⟨c, hc, rfl⟩ := List.mem_map.1 hz
   rw [h1 c hc]; decide
  ·exact ⟨htab.2.2.1, hk⟩
 ·exact ⟨htab.2.2.1, hk⟩
theorem well_side {n : NodeA} {t f : Bool} (hs : sortS n.op ≠ 0) (h54 : (n.op == 54) = false) (hC : (t && n.op == 12 || (t || f) && n.op == 3) = false) (A : Bool) :
  (stC n t f false && ((n.kids.map fun x => sortS x.op) == sortsC n && (A && lastC n))) = ((n.kids.map fun x => sortS x.op) == digs (kidV n) && (A && lastW n)) := by
 have htab := tab hs
 by_cases h10 : (n.op == 10 || n.op == 37) = true
 ·obtain ⟨hs0, hn0⟩ := htab.2.2.2.1 (by rw [h10]; rfl)
  have a39 : (n.op == 39) = false := by rw [Bool.eq_false_iff]; intro hc; simp at hc h10; omega
  have hk : digs (kidB n.op) = [] := by unfold digs; rw [htab.2.1, hs0]; rfl
  have e1 : stC n t f false = decide (n.kids.length ≤ 1) := by unfold stC; rw [if_pos h10]
  have e2 : sortsC n = List.replicate n.kids.length 1 := by unfold sortsC; rw [if_pos h10]
  have e3 : lastW n = lastC n := by unfold lastW; rw [a39]; rfl
  rw [e1, e2, e3]
  unfold kidV
  rw [if_pos h10]
  by_cases h1 : n.kids.length = 1
  ·have : ((n.kids.length : Int) == 1) = true := by simp [h1]
   rw [this, if_pos rfl, h1]
   have : digs ⟨#[49]⟩ = [1] := by unfold digs; rw [bytes_toList]; rfl
   rw [this]; rfl
  ·have : ((n.kids.length : Int) == 1) = false := by rw [beq_eq_false_iff_ne]; omega
   rw [this]
   simp only [Bool.false_eq_true, if_false, hk]
   by_cases h0 : n.kids.length = 0
   ·rw [h0]; rfl
   ·have e : decide (n.kids.length ≤ 1) = false := by simp; omega
    have : ((n.kids.map fun x => sortS x.op) == ([] : List Int)) = false := by
     rw [beq_eq_false_iff_ne]; intro hq; apply h0; simpa using congrArg List.length hq
    rw [e, this]; rfl
 ·have h10' : (n.op == 10 || n.op == 37) = false := by simpa using h10
  have e2 : sortsC n = digs (kidV n) := by
   unfold sortsC kidV digs; rw [h10', h54]; exact htab.2.1.symm
  rw [e2]
  have e1 : stC n t f false = if n.op == 39 then !(((n.kids.length : Int) != 1) || !((n.kids[0]?).all diffS)) else true := by
   unfold stC
   rw [h10', h54]
   by_cases h3 : (n.op == 3) = true
   ·have a39 : (n.op == 39) = false := by rw [Bool.eq_false_iff]; intro hc; simp at hc h3; omega
    have a12 : (n.op == 12) = false := by rw [Bool.eq_false_iff]; intro hc; simp at hc h3; omega
    rw [h3, a12] at hC
    rw [h3, a39]
    revert hC; cases t <;> cases f <;> simp
   ·have h3' : (n.op == 3) = false := by simpa using h3
    by_cases h12 : (n.op == 12) = true
    ·have a39 : (n.op == 39) = false := by rw [Bool.eq_false_iff]; intro hc; simp at hc h12; omega
     rw [h3', h12] at hC
     rw [h3', h12, a39]
     revert hC; cases t <;> simp
    ·have h12' : (n.op == 12) = false := by simpa using h12
     rw [h3', h12']; simp
  rw [e1]
  by_cases h39 : (n.op == 39) = true
  ·have hlast : lastC n = true := by
    unfold lastC
    have a8 : (n.op == 8) = false := by rw [Bool.eq_false_iff]; intro hc; simp at hc h39; omega
    have a9 : (n.op == 9) = false := by rw [Bool.eq_false_iff]; intro hc; simp at hc h39; omega
    rw [a8, a9]; rfl
   have hd : digs (kidV n) = [2] := by rw [← e2]; unfold sortsC; rw [h10', h54, htab.2.2.2.2.1 (by simpa using h39)]; rfl
   have e3 : lastW n = (n.kids[0]?).all diffS := by unfold lastW; rw [h39]; rfl
   rw [h39, hlast, e3, hd]
   simp only [if_true, Bool.and_true]
   cases hm : ((n.kids.map fun x => sortS x.op) == ([2] : List Int)) with
   | false => simp
   | true =>
    have hl : n.kids.length = 1 := by have := congrArg List.length (eq_of_beq hm); simpa using this
    have : ((n.kids.length : Int) != 1) = false := by simp [hl]
    rw [this]
    cases (n.kids[0]?).all diffS <;> cases A <;> rfl
  ·have h39' : (n.op == 39) = false := by simpa using h39
   have e3 : lastW n = lastC n := by unfold lastW; rw [h39']; rfl
   rw [h39', e3]; rfl
theorem well_iter {K : Nat} (hK : 12 < K) : ∀ (k : Nat),
  (∀ (n : NodeA) (s : Int) (t f : Bool), 2 * n.size ≤ k → 2 * n.size ≤ K → n.size ≤ big → n.words → s ≠ 0 → (grp_r08_well K k).1 (n, s, t, f) = some (sortS n.op == s && okS n t f false)) ∧
  (∀ (n : NodeA) (t f : Bool), 2 * n.size ≤ k + 1 → 2 * n.size ≤ K → n.size ≤ big → n.words → n.op = 54 → (grp_r08_well K k).2 (n, t, f) = some (stC n t f false && ((n.kids.map fun x => sortS x.op) == sortsC n && n.kids.all fun k => okS k t f true))) := by
 intro k
 induction k with
 | zero => exact ⟨fun n s t f h => by have := n.size_pos; omega, fun n t f h => by have := n.size_pos; omega⟩
 | succ k ih =>
  obtain ⟨ih1, ih2⟩ := ih
  refine ⟨fun n s t f h hK2 hb hw hs => ?_, fun n t f h hK2 hb hw h54 => ?_⟩
  ·show r08_well_body K (grp_r08_well K k).1 (grp_r08_well K k).2 n s t f = _
   generalize (grp_r08_well K k).1 = S1 at ih1 ⊢
   generalize (grp_r08_well K k).2 = S2 at ih2 ⊢
   have hl := n.kids_lt
   have hbig : n.size ≤ 1099511627776 := hb
   unfold r08_well_body
   simp only [r08_Sort_eq, r08_named_eq, r08_Name_eq hK, Option.bind_some]
   by_cases hsort : sortS n.op = s
   ·subst hsort
    have htab := tab hs
    have e0 : (sortS n.op != sortS n.op) = false := by simp
    have e0' : (sortS n.op == sortS n.op) = true := by simp
    rw [e0, e0', Bool.true_and, okS_eq]
    simp only [Bool.false_eq_true, if_false]
    refine ob (if nameC n then .go () else .out false) ?_ ?_
    ·unfold nameC
     rw [htab.1]
     have hem : ((n.name.toList == (⟨#[]⟩ : ByteArray).toList) = true → nameB n.name = false) := emptyB_name
     have hem' : (n.name.toList == (⟨#[]⟩ : ByteArray).toList) = emptyB n.name := rfl
     rw [hem'] at hem ⊢
     revert hem
     cases (namedS n.op || (n.op == 10 || n.op == 37)) <;> cases nameB n.name <;> cases emptyB n.name <;> simp [outM]
    cases hB : nameC n with
    | false => simp [Out.fin]
    | true =>
    simp only [if_true, Out.fin_go]
    refine ob _ num_join' ?_
    cases hA : numC n with
    | false => rfl
    | true =>
    simp only [if_true, Out.fin_go, Bool.true_and]
    refine ob (if !(t && n.op == 12 || (t || f) && n.op == 3) then .go () else .out false) ?_ ?_
    ·cases t <;> cases f <;> cases (n.op == 12) <;> cases (n.op == 3) <;> rfl
    by_cases hC : (t && n.op == 12 || (t || f) && n.op == 3) = true
    ·have : stC n t f false = false := by
      unfold stC
      have h12 : (n.op == 12) = true ∨ (n.op == 3) = true := by
       revert hC; cases t <;> cases f <;> cases (n.op == 12) <;> cases (n.op == 3) <;> simp
      have a10 : (n.op == 10 || n.op == 37) = false := by rw [Bool.eq_false_iff]; intro hc; simp at hc h12; omega
      have a54 : (n.op == 54) = false := by rw [Bool.eq_false_iff]; intro hc; simp at hc h12; omega
      rw [a10, a54]
      rcases h12 with h12 | h12
      ·have a3 : (n.op == 3) = false := by rw [Bool.eq_false_iff]; intro hc; simp at hc h12; omega
       rw [h12, a3] at hC ⊢
       revert hC; cases t <;> cases f <;> simp
      ·have a12 : (n.op == 12) = false := by rw [Bool.eq_false_iff]; intro hc; simp at hc h12; omega
       rw [h12, a12] at hC ⊢
       revert hC; cases t <;> cases f <;> simp
     rw [hC, this]; rfl
    have hC' : (t && n.op == 12 || (t || f) && n.op == 3) = false := by simpa using hC
    rw [hC']
    simp only [Bool.not_false, if_true, Out.fin_go]
    by_cases h54 : (n.op == 54) = true
    ·have a12 : (n.op == 12) = false := by rw [Bool.eq_false_iff]; intro hc; simp at hc h54; omega
     have a39 : (n.op == 39) = false := by rw [Bool.eq_false_iff]; intro hc; simp at hc h54; omega
     have hlast : lastC n = true := by
      unfold lastC
      have a8 : (n.op == 8) = false := by rw [Bool.eq_false_iff]; intro hc; simp at hc h54; omega
      have a9 : (n.op == 9) = false := by rw [Bool.eq_false_iff]; intro hc; simp at hc h54; omega
      rw [a8, a9]; rfl
     rw [h54, a12, a39, hlast]
     simp only [if_true, Bool.or_false, Bool.or_true, Bool.and_true]
     rw [ih2 n t f (by omega) hK2 hb hw (by simpa using h54)]; rfl
    have h54' : (n.op == 54) = false := by simpa using h54
    simp only [h54', Bool.false_eq_true, if_false, r08_kids_eq, Option.bind_some, orO, Bool.or_false]
    rw [well_side hs h54' hC']
    obtain ⟨hv1, hv2⟩ := kidV_ok hs
    refine ob (kidV n) (by unfold kidV; cases (n.op == 10 || n.op == 37) <;> cases ((n.kids.length : Int) == 1) <;> rfl) ?_
    have hdl : (digs (kidV n)).length = (kidV n).size := by unfold digs; rw [List.length_map, size_toList]
    by_cases hlen : n.kids.length = (digs (kidV n)).length
    ·have e : (((kidV n).size : Int) != (n.kids.length : Int)) = false := by rw [hlen, hdl]; simp
     simp only [e, Bool.false_eq_true, if_false]
     refine ob (if ((n.kids.map fun x => sortS x.op) == digs (kidV n) && n.kids.all (fun k => okS k (t || n.op == 12) (f || n.op == 39) false)) then .go () else .out false) ?_ ?_
     ·rw [← map_eq hlen (fun k => okS k (t || n.op == 12) (f || n.op == 39) false)]
      refine scanG n.kids.length (fun i => (i : Int)) _ false () (fun g i hi => ?_) (fun g => ?_) (by omega) rfl
      ·have hx : n.kids[i]? = some n.kids[i] := List.getElem?_eq_getElem hi
       have hm := List.getElem_mem hi
       have hs' := NodeA.size_lt hm
       have hbk : n.kids[i].size ≤ big := by unfold big; omega
       obtain ⟨c, hc1, hc2⟩ := strAt_list (v := kidV n) (i := i) (by omega)
       have hcm := hv1 c (List.mem_of_getElem? hc2)
       have hy : (digs (kidV n))[i]? = some ((c.toNat : Int) - 48) := by unfold digs; rw [List.getElem?_map, hc2]; rfl
       have hy0 := hv2 _ (List.mem_of_getElem? hy)
       have hd : decide ((i : Int) < ((kidV n).size : Int)) = true := by simp; omega
       have e1 : IntKind.wrap .i64 (IntKind.wrap .u8 ((c.toNat : Int) - 48)) = (c.toNat : Int) - 48 := by
        have : IntKind.wrap .u8 ((c.toNat : Int) - 48) = (c.toNat : Int) - 48 := by
         simp only [IntKind.wrap, IntKind.bits, IntKind.signed, Bool.false_and]
         simp; omega
        rw [this, w64 (by omega) (by omega)]
       simp only [hd, if_true, idx_nat, hx, hc1, hy, Option.bind_some, e1, Option.all_some]
       generalize (c.toNat : Int) - 48 = z at hy0
       have ih' : ∀ a b, S1 (n.kids[i], z, a, b) = some (sortS n.kids[i].op == z && okS n.kids[i] a b false) := fun a b => ih1 n.kids[i] z a b (by omega) (by omega) hbk (NodeA.words_kid hw hm) hy0
       simp only [ih', Option.bind_some]
       rw [w64s (by omega)]
       have e2 : (sortS n.kids[i].op != z) = !(sortS n.kids[i].op == z) := rfl
       rw [e2]
       cases t <;> cases f <;> simp only [Bool.false_eq_true, if_false, if_true, Bool.false_or, Bool.true_or, Bool.not_not] <;> cases (sortS n.kids[i].op == z) <;> (try rfl) <;> generalize okS n.kids[i] _ _ false = q <;> cases q <;> rfl
      ·have hd : decide ((n.kids.length : Int) < ((kidV n).size : Int)) = false := by simp; omega
       simp only [hd, Bool.false_eq_true, if_false]
     ·rw [← Bool.and_assoc ((n.kids.map fun x => sortS x.op) == digs (kidV n))]
      cases hD : ((n.kids.map fun x => sortS x.op) == digs (kidV n) && n.kids.all (fun k => okS k (t || n.op == 12) (f || n.op == 39) false)) with
      | false => rfl
      | true =>
       simp only [if_true, Out.fin_go, Bool.true_and]
       have hmap : (n.kids.map fun x => sortS x.op) = digs (kidV n) := by
        revert hD; cases hq : ((n.kids.map fun x => sortS x.op) == digs (kidV n)) with
        | false => simp
        | true => intro _; exact eq_of_beq hq
       unfold lastW
       by_cases h89 : (n.op == 8 || n.op == 9) = true
       ·have a10 : (n.op == 10 || n.op == 37) = false := by rw [Bool.eq_false_iff]; intro hc; simp at hc h89; omega
        have a39 : (n.op == 39) = false := by rw [Bool.eq_false_iff]; intro hc; simp at hc h89; omega
        have h2 : n.kids.length = 2 := by
         rw [hlen]; unfold kidV digs
         rw [a10]
         simp only [Bool.false_eq_true, if_false]
         rw [htab.2.1, htab.2.2.2.2.2.1 h89]; rfl
        have hx : n.kids[1]? = some n.kids[1] := List.getElem?_eq_getElem (by omega)
        have i1 : idx n.kids 1 = some n.kids[1] := by rw [← hx]; exact idx_nat (k := 1)
        have hwk := NodeA.words_num (NodeA.words_kid hw (List.getElem_mem (show 1 < n.kids.length by omega)))
        obtain ⟨z, hz1, hz2⟩ := Natural_eq (K := K) hwk
        unfold lastC
        simp only [i1, hx, Option.bind_some, Option.all_some, hz1, hz2, a39, Bool.false_eq_true, if_false]
        cases (n.op == 8) with
        | true => cases (n.kids[1].op == 1) <;> rfl
        | false =>
         cases (n.op == 9) with
         | false => rfl
         | true => cases (n.kids[1].op == 1) <;> rfl
       ·have h8 : (n.op == 8) = false := by revert h89; cases (n.op == 8) <;> simp
        have h9 : (n.op == 9) = false := by revert h89; cases (n.op == 9) <;> simp
        unfold lastC
        rw [h8, h9]
        by_cases h39 : (n.op == 39) = true
        ·have a10 : (n.op == 10 || n.op == 37) = false := by rw [Bool.eq_false_iff]; intro hc; simp at hc h39; omega
         have h1 : n.kids.length = 1 := by
          rw [hlen]; unfold kidV digs
          rw [a10]
          simp only [Bool.false_eq_true, if_false]
          rw [htab.2.1, htab.2.2.2.2.1 (by simpa using h39)]; rfl
         have hx : n.kids[0]? = some n.kids[0] := List.getElem?_eq_getElem (by omega)
         have i0 : idx n.kids 0 = some n.kids[0] := by rw [← hx]; exact idx_nat (k := 0)
         have hs0 := NodeA.size_lt (List.getElem_mem (show 0 < n.kids.length by omega))
         simp only [h39, Bool.false_eq_true, if_false, if_true, i0, hx, Option.bind_some, Option.all_some, r08_differential_eq (show n.kids[0].size ≤ K by omega) (show n.kids[0].size ≤ 4611686018427387904 by omega)]
        ·have h39' : (n.op == 39) = false := by simpa using h39
         rw [h39']; rfl
    ·have e : (((kidV n).size : Int) != (n.kids.length : Int)) = true := by rw [← hdl]; simp; omega
     have e2 : ((n.kids.map fun x => sortS x.op) == digs (kidV n)) = false := by
      rw [beq_eq_false_iff_ne]; intro hq; apply hlen; rw [← hq]; simp
     rw [e, e2]; rfl
   ·have e0 : (sortS n.op != s) = true := by simpa using hsort
    have e1 : (sortS n.op == s) = false := by simpa using hsort
    rw [e0, e1]; rfl
  ·show r08_flow_body K (grp_r08_well K k).1 (grp_r08_well K k).2 n t f = _
   generalize (grp_r08_well K k).1 = S1 at ih1 ⊢
   generalize (grp_r08_well K k).2 = S2 at ih2 ⊢
   rw [← flow_eq h54]
   have hl := n.kids_lt
   have hbig : n.size ≤ 1099511627776 := hb
   have hprim : primS n = n.kids.any primS := by rw [primS_eq, h54]; rfl
   unfold r08_flow_body
   by_cases h2 : 2 ≤ n.kids.length
   ·have hd : decide ((n.kids.length : Int) < 2) = false := by simp; omega
    have e3 : IntKind.wrap .i64 ((n.kids.length : Int) - 1) = ((n.kids.length - 1 : Nat) : Int) := by rw [w64 (by omega) (by omega)]; omega
    have e4 : IntKind.wrap .i64 ((n.kids.length : Int) - 2) = ((n.kids.length - 2 : Nat) : Int) := by rw [w64 (by omega) (by omega)]; omega
    have hx : n.kids[n.kids.length - 1]? = some n.kids[n.kids.length - 1] := List.getElem?_eq_getElem (by omega)
    have hm : n.kids[n.kids.length - 1] ∈ n.kids := List.getElem_mem (by omega)
    have hsz := NodeA.size_lt hm
    simp only [hd, Bool.false_eq_true, if_false, r08_primed_eq (show n.size ≤ K by omega) (show n.size ≤ 4611686018427387904 by omega), Option.bind_some, e3, e4, idx_nat, hx,
     ih1 n.kids[n.kids.length - 1] 2 t f (by omega) (by omega) (by unfold big; omega) (NodeA.words_kid hw hm) (by omega), decide_eq_true h2, Bool.true_and, Option.all_some, hprim]
    cases hp : n.kids.any primS with
    | true => rfl
    | false =>
    simp only [Bool.false_eq_true, if_false, Bool.not_false, Bool.true_and, Option.bind_some]
    cases hlast : (sortS n.kids[n.kids.length - 1].op == 2 && okS n.kids[n.kids.length - 1] t f false) with
    | false => rfl
    | true =>
    simp only [Bool.not_true, Bool.false_eq_true, if_false, Option.bind_some, Out.fin_go, Bool.true_and]
    refine ob _ (scanG (n.kids.length - 1) (fun i => (i : Int)) (fun i => (n.kids[i]?).all fun (x : NodeA) =>
   !(x.op == 56 && decide ((i : Int) < ((n.kids.length - 2 : Nat) : Int)) || (x.op != 56 && x.op != 55 || !(sortS x.op == 4 && okS x t f false))) && (n.kids.take i).all fun y => !(x.op == 55 && y.name.toList == x.name.toList)) false () (fun g i hi => ?_) (fun g => ?_) (by omega) rfl) ?_
    ·have hi' : i < n.kids.length := by omega
     have hx : n.kids[i]? = some n.kids[i] := List.getElem?_eq_getElem hi'
     have hm := List.getElem_mem hi'
     have hs' := NodeA.size_lt hm
     have hbk : n.kids[i].size ≤ big := by unfold big; omega
     have hd : decide ((i : Int) < ((n.kids.length - 1 : Nat) : Int)) = true := by simp; omega
     have e56 : (n.kids[i].op != 56) = !(n.kids[i].op == 56) := rfl
     have e55 : (n.kids[i].op != 55) = !(n.kids[i].op == 55) := rfl
     simp only [hd, if_true, idx_nat, hx, Option.bind_some, ih1 n.kids[i] 4 t f (by omega) (by omega) hbk (NodeA.words_kid hw hm) (by omega), Option.all_some]
     rw [w64s (by omega)]
     refine ob (if (!(n.kids[i].op == 56 && decide ((i : Int) < ((n.kids.length - 2 : Nat) : Int)) || (n.kids[i].op != 56 && n.kids[i].op != 55 || !(sortS n.kids[i].op == 4 && okS n.kids[i] t f false))) && (n.kids.take i).all fun y => !(n.kids[i].op == 55 && y.name.toList == n.kids[i].name.toList)) then .go () else .out (.out false)) ?_ ?_
     ·refine ob (if !(n.kids[i].op == 56 && decide ((i : Int) < ((n.kids.length - 2 : Nat) : Int)) || (n.kids[i].op != 56 && n.kids[i].op != 55 || !(sortS n.kids[i].op == 4 && okS n.kids[i] t f false))) then .go () else .out (.out (.out false))) ?_ ?_
      ·rw [e56, e55]
       cases (n.kids[i].op == 56) <;> cases decide ((i : Int) < ((n.kids.length - 2 : Nat) : Int)) <;> cases (n.kids[i].op == 55) <;> cases (sortS n.kids[i].op == 4 && okS n.kids[i] t f false) <;> rfl
      ·cases (n.kids[i].op == 56 && decide ((i : Int) < ((n.kids.length - 2 : Nat) : Int)) || (n.kids[i].op != 56 && n.kids[i].op != 55 || !(sortS n.kids[i].op == 4 && okS n.kids[i] t f false))) with
       | true => rfl
       | false =>
        simp only [Bool.not_false, if_true, Out.fin_go, Bool.true_and]
        have hti : (n.kids.take i).length = i := by rw [List.length_take]; omega
        refine ob _ (scanG (n.kids.take i).length (fun j => (j : Int)) (fun j => ((n.kids.take i)[j]?).all fun y => !(n.kids[i].op == 55 && y.name.toList == n.kids[i].name.toList)) (.out (.out false)) () (fun g' j hj => ?_) (fun g' => ?_) (by omega) rfl) ?_
        ·have hy : (n.kids.take i)[j]? = some (n.kids.take i)[j] := List.getElem?_eq_getElem hj
         have hy' : n.kids[j]? = some (n.kids.take i)[j] := by rw [← hy, List.getElem?_take, if_pos (by omega)]
         have hd : decide ((j : Int) < (i : Int)) = true := by simp; omega
         simp only [hd, if_true, idx_nat, hy, hy', Option.bind_some, andO, Option.all_some]
         rw [w64s (by omega)]
         cases (n.kids[i].op == 55 && (n.kids.take i)[j].name.toList == n.kids[i].name.toList) <;> rfl
        ·have hd : decide (((n.kids.take i).length : Int) < (i : Int)) = false := by rw [hti]; simp
         simp only [hd, Bool.false_eq_true, if_false]
        ·rw [range_all]
         cases ((n.kids.take i).all fun y => !(n.kids[i].op == 55 && y.name.toList == n.kids[i].name.toList)) <;> rfl
     ·cases (!(n.kids[i].op == 56 && decide ((i : Int) < ((n.kids.length - 2 : Nat) : Int)) || (n.kids[i].op != 56 && n.kids[i].op != 55 || !(sortS n.kids[i].op == 4 && okS n.kids[i] t f false))) && (n.kids.take i).all fun y => !(n.kids[i].op == 55 && y.name.toList == n.kids[i].name.toList)) <;> rfl
    ·have hd : decide (((n.kids.length - 1 : Nat) : Int) < ((n.kids.length - 1 : Nat) : Int)) = false := by simp
     simp only [hd, Bool.false_eq_true, if_false]
    ·cases ((List.range (n.kids.length - 1)).all fun i => (n.kids[i]?).all fun x =>
   !(x.op == 56 && decide ((i : Int) < ((n.kids.length - 2 : Nat) : Int)) || (x.op != 56 && x.op != 55 || !(sortS x.op == 4 && okS x t f false))) && (n.kids.take i).all fun y => !(x.op == 55 && y.name.toList == x.name.toList)) <;> rfl
   ·have hd : decide ((n.kids.length : Int) < 2) = true := by simp; omega
    rw [hd, decide_eq_false h2]; rfl
end Go.Proofs.YtemjeommnpocnaaGreat
namespace Go.Proofs.YtemjeommnpocnaaGreat
open Go Go.Iso Go.Proofs
set_option linter.unusedSimpArgs false
set_option linter.unusedVariables false
set_option maxRecDepth 100000
/-! ### Check -/
def checkS (n : NodeA) (s : Int) : Int :=
 if decide (s < 1) || decide (3 < s) then 1 else if decide ((n.size : Int) ≤ 4000) && decide ((n.lev : Int) ≤ 60) then (if sortS n.op != s then 80 else if !okS n false false false then 3 else 0) else 2
theorem tree_Check_eq {K : Nat} {n : NodeA} {s : Int} (hK : 12 < K) (hK2 : 2 * n.size ≤ K) (hb : n.size ≤ big) : tree_Check K n s = some (checkS n s) := by
 unfold tree_Check checkS
 simp only [orO, Option.bind_some]
 cases hs : (decide (s < 1) || decide (3 < s)) with
 | true => rfl
 | false =>
  simp only [Bool.false_eq_true, if_false, Option.bind_some, Out.fin_go]
  obtain ⟨r, hr, hw⟩ := tree_within_eq (show n.size ≤ K by omega) hb
  rw [hr]
  simp only [Option.bind_some]
  unfold Within at hw
  by_cases hc : (n.size : Int) ≤ 4000 ∧ (n.lev : Int) ≤ 60
  ·rw [if_pos hc] at hw
   subst hw
   rw [decide_eq_true hc.1, decide_eq_true hc.2]
   simp only [Bool.not_true, Bool.false_eq_true, if_false, tree_Sort_eq, Option.bind_some, Bool.and_self, if_true]
   by_cases h2 : sortS n.op = s
   ·have e : (sortS n.op != s) = false := by simp [h2]
    have h0 : sortS n.op ≠ 0 := by rw [h2]; intro hz; subst hz; revert hs; decide
    rw [e]
    simp only [Bool.false_eq_true, if_false]
    have : tree_formed K n (Tree_placeA.mk false false false) = some (okS n false false false) := formed_iter hK K n ⟨false, false, false⟩ (by omega) (by omega) hb h0
    rw [this]
    simp only [Option.bind_some]
    cases okS n false false false <;> rfl
   ·have e : (sortS n.op != s) = true := by simp [h2]
    rw [e]; rfl
  ·rw [if_neg hc] at hw
   rw [hw]
   have : (decide ((n.size : Int) ≤ 4000) && decide ((n.lev : Int) ≤ 60)) = false := by
    rw [Bool.and_eq_false_iff, decide_eq_false_iff_not, decide_eq_false_iff_not]
    by_cases h1 : (n.size : Int) ≤ 4000
    ·exact .inr fun h2 => hc ⟨h1, h2⟩
    ·exact .inl h1
   rw [this]; rfl
theorem r08_well_eq {K : Nat} {n : NodeA} {s : Int} (hK : 12 < K) (hK2 : 2 * n.size ≤ K) (hb : n.size ≤ big) (hw : n.words) (hs : s ≠ 0) : r08_well K n s false false = some (sortS n.op == s && okS n false false false) :=
 (well_iter hK K).1 n s false false hK2 hK2 hb hw hs
theorem r08_Check_eq {K : Nat} {n : NodeA} {s : Int} (hK : 12 < K) (hK2 : 2 * n.size ≤ K) (hb : n.size ≤ big) (hw : n.words) : r08_Check K n s = some (checkS n s) := by
 unfold r08_Check checkS
 simp only [orO, Option.bind_some]
 cases hs : (decide (s < 1) || decide (3 < s)) with
 | true => rfl
 | false =>
  simp only [Bool.false_eq_true, if_false, r08_Size_eq (show n.size ≤ K by omega) hb, r08_Levels_eq (show n.size ≤ K by omega) hb, Option.bind_some, orO]
  by_cases hc : (n.size : Int) ≤ 4000 ∧ (n.lev : Int) ≤ 60
  ·have e1 : decide ((4000 : Int) < (n.size : Int)) = false := by simp; omega
   have e2 : decide ((60 : Int) < (n.lev : Int)) = false := by simp; omega
   rw [e1, e2, decide_eq_true hc.1, decide_eq_true hc.2]
   simp only [Bool.or_self, Bool.false_eq_true, if_false, r08_Sort_eq, Option.bind_some, Bool.and_self, if_true]
   by_cases h2 : sortS n.op = s
   ·have e : (sortS n.op != s) = false := by simp [h2]
    have e' : (sortS n.op == s) = true := by simp [h2]
    have h0 : s ≠ 0 := by intro hz; subst hz; revert hs; decide
    rw [e]
    simp only [Bool.false_eq_true, if_false, r08_well_eq hK hK2 hb hw h0, Option.bind_some, e', Bool.true_and]
    cases okS n false false false <;> rfl
   ·have e : (sortS n.op != s) = true := by simp [h2]
    rw [e]; rfl
  ·have : (decide ((n.size : Int) ≤ 4000) && decide ((n.lev : Int) ≤ 60)) = false := by
    rw [Bool.and_eq_false_iff, decide_eq_false_iff_not, decide_eq_false_iff_not]
    by_cases h1 : (n.size : Int) ≤ 4000
    ·exact .inr fun h2 => hc ⟨h1, h2⟩
    ·exact .inl h1
   have e : (decide ((4000 : Int) < (n.size : Int)) || decide ((60 : Int) < (n.lev : Int))) = true := by
    rw [Bool.or_eq_true, decide_eq_true_eq, decide_eq_true_eq]
    by_cases h1 : (n.size : Int) ≤ 4000
    ·exact .inr (by have : ¬ (n.lev : Int) ≤ 60 := fun h2 => hc ⟨h1, h2⟩; omega)
    ·exact .inl (by omega)
   rw [this, e]; rfl
/-! ### Nodes -/
end Go.Proofs.YtemjeommnpocnaaGreat
namespace Go.Proofs.YtemjeommnpocnaaGreat
open Go Go.Iso Go.Proofs
set_option linter.unusedSimpArgs false
set_option linter.unusedVariables false
/-! ### What comes out from some number of rounds on -/
section
variable {ι : Type} {κ : ι → Nat} {α β : Type}
def Ev (κ : ι → Nat) (f : ι → Option α) (P : α → Prop) : Prop := ∃ k0 r, P r ∧ ∀ i, k0 ≤ κ i → f i = some r
theorem Ev.ret {r : α} {P : α → Prop} (h : P r) : Ev κ (fun _ => some r) P := ⟨0, r, h, fun _ _ => rfl⟩
theorem Ev.mono {f : ι → Option α} {P Q : α → Prop} (h : Ev κ f P) (hi : ∀ r, P r → Q r) : Ev κ f Q := by
 obtain ⟨k, r, hp, h⟩ := h; exact ⟨k, r, hi r hp, h⟩
theorem Ev.bind {f : ι → Option α} {g : ι → α → Option β} {P : α → Prop} {Q : β → Prop} (h : Ev κ f P) (hk : ∀ r, P r → Ev κ (fun i => g i r) Q) : Ev κ (fun i => (f i).bind (g i)) Q := by
 obtain ⟨k, r, hp, h⟩ := h
 obtain ⟨k', r', hq, h'⟩ := hk r hp
 exact ⟨max k k', r', hq, fun i hi => by (show (f i).bind (g i) = some r'; rw [h i (by omega)]; exact h' i (by omega))⟩
theorem Ev.op {o : Option α} {g : ι → α → Option β} {Q : β → Prop} (x : α) (h : o = some x) (hk : Ev κ (fun i => g i x) Q) : Ev κ (fun i => o.bind (g i)) Q := by
 subst h; exact hk
theorem Ev.late {f : ι → Option α} {P : α → Prop} (k : Nat) {r : α} (h : ∀ i, k ≤ κ i → f i = some r) (hp : P r) : Ev κ f P := ⟨k, r, hp, h⟩
theorem Ev.congr {f g : ι → Option α} {P : α → Prop} (k : Nat) (h : ∀ i, k ≤ κ i → f i = g i) (hg : Ev κ g P) : Ev κ f P := by
 obtain ⟨k', r, hp, h'⟩ := hg
 exact ⟨max k k', r, hp, fun i hi => by rw [h i (by omega)]; exact h' i (by omega)⟩
theorem Ev.iter {S R : Type} {F : ι → (S → Option R) → S → Option R} (Inv : S → Prop) (μ : S → Nat) {P : R → Prop}
  (h : ∀ s, Inv s → ∀ G : ι → S → Option R, (∀ t, Inv t → μ t < μ s → Ev κ (fun i => G i t) P) → Ev κ (fun i => F i (G i) s) P) {s : S} (hs : Inv s) :
  Ev κ (fun i => Iso.iter (κ i) (F i) s) P := by
 have key : ∀ (n : Nat) (s : S) (d : Nat), μ s ≤ n → Inv s → Ev κ (fun i => Iso.iter (κ i - d) (F i) s) P := by
  intro n
  induction n with
  | zero =>
   intro s d hm hs
   refine Ev.congr (d + 1) (fun i hi => ?_) (h s hs (fun i => Iso.iter (κ i - (d + 1)) (F i)) fun t ht hlt => absurd hlt (by omega))
   obtain ⟨e, he⟩ : ∃ e, κ i - d = e + 1 := ⟨κ i - (d + 1), by omega⟩
   rw [he, iter_succ, show e = κ i - (d + 1) by omega]
  | succ n ih =>
   intro s d hm hs
   refine Ev.congr (d + 1) (fun i hi => ?_) (h s hs (fun i => Iso.iter (κ i - (d + 1)) (F i)) fun t ht hlt => ih t (d + 1) (by omega) ht)
   obtain ⟨e, he⟩ : ∃ e, κ i - d = e + 1 := ⟨κ i - (d + 1), by omega⟩
   rw [he, iter_succ, show e = κ i - (d + 1) by omega]
 exact Ev.congr 0 (fun i _ => by simp only [Nat.sub_zero]) (key (μ s) s 0 (Nat.le_refl _) hs)
end
/-! ### Numbers in base 10000 -/
def DG (l : List Int) : Prop := ∀ d ∈ l, 0 ≤ d ∧ d < 10000
def vl : List Int → Int
 | [] => 0
 | d :: l => d + 10000 * vl l
def B (n : Nat) : Int := 10000 ^ n
theorem B_zero : B 0 = 1 := rfl
theorem B_succ {n : Nat} : B (n + 1) = 10000 * B n := by unfold B; rw [Int.pow_succ, Int.mul_comm]
theorem B_pos {n : Nat} : 0 < B n := Int.pow_pos (by omega)
theorem B_le {n m : Nat} (h : n ≤ m) : B n ≤ B m := by
 induction m with
 | zero => obtain rfl : n = 0 := by omega
           exact Int.le_refl _
 | succ m ih =>
  by_cases e : n = m + 1
  ·rw [e]; exact Int.le_refl _
  ·have := ih (by omega); have := @B_pos m; rw [B_succ]; omega
theorem vl_app {a b : List Int} : vl (a ++ b) = vl a + B a.length * vl b := by
 induction a with
 | nil => simp [vl, B_zero]
 | cons d a ih => simp only [List.cons_append, vl, ih, List.length_cons, B_succ, Int.mul_add, Int.add_assoc, Int.mul_assoc]
theorem vl_one {d : Int} : vl [d] = d := by simp [vl]
theorem DG.nil : DG [] := fun d h => by cases h
theorem DG.app {a b : List Int} (ha : DG a) (hb : DG b) : DG (a ++ b) := fun d h => (List.mem_append.1 h).elim (ha d) (hb d)
theorem DG.one {d : Int} (h0 : 0 ≤ d) (h1 : d < 10000) : DG [d] := fun e h => by obtain rfl := List.mem_singleton.1 h; exact ⟨h0, h1⟩
theorem DG.take {a : List Int} (h : DG a) (n : Nat) : DG (a.take n) := fun d hd => h d (List.mem_of_mem_take hd)
theorem DG.drop {a : List Int} (h : DG a) (n : Nat) : DG (a.drop n) := fun d hd => h d (List.mem_of_mem_drop hd)
theorem DG.get {a : List Int} (h : DG a) {i : Nat} (hi : i < a.length) : 0 ≤ a[i] ∧ a[i] < 10000 := h _ (List.getElem_mem hi)
theorem DG.tail {a : List Int} {d : Int} (h : DG (d :: a)) : DG a := fun e he => h e (List.mem_cons_of_mem _ he)
theorem vl_nn : ∀ {a : List Int}, DG a → 0 ≤ vl a
 | [], _ => Int.le_refl _
 | d :: a, h => by have := vl_nn h.tail; have := h d (List.mem_cons_self ..); unfold vl; omega
theorem vl_lt : ∀ {a : List Int}, DG a → vl a < B a.length
 | [], _ => by simp [vl, B_zero]
 | d :: a, h => by
  have := vl_lt h.tail; have := h d (List.mem_cons_self ..)
  rw [List.length_cons, B_succ]; unfold vl; omega
def NM (l : List Int) : Prop := DG l ∧ l.getLast? ≠ some 0
theorem NM.nil : NM [] := ⟨DG.nil, by simp⟩
theorem NM.ge {a : List Int} (h : NM a) (h0 : a ≠ []) : B (a.length - 1) ≤ vl a := by
 obtain ⟨hd, hl⟩ := h
 have e := List.dropLast_concat_getLast h0
 have hg := List.getLast?_eq_some_getLast h0
 have hm := hd _ (List.getLast_mem h0)
 have h1 : DG a.dropLast := fun d h => hd d (List.dropLast_subset a h)
 have h2 := vl_nn h1
 rw [← e, vl_app, vl_one, List.length_append, List.length_dropLast, List.length_singleton, Nat.add_sub_cancel]
 have hz : a.getLast h0 ≠ 0 := fun hz => hl (by rw [hg, hz])
 have hb := @B_pos (a.length - 1)
 have : B (a.length - 1) * 1 ≤ B (a.length - 1) * a.getLast h0 := Int.mul_le_mul_of_nonneg_left (by omega) (by omega)
 omega
theorem NM.pos {a : List Int} (h : NM a) (h0 : a ≠ []) : 0 < vl a := by have := h.ge h0; have := @B_pos (a.length - 1); omega
theorem NM.len {a : List Int} (h : NM a) {n : Nat} (hv : vl a < B n) : a.length ≤ n := by
 by_cases h0 : a = []
 ·subst h0; simp
 ·have h1 := h.ge h0
  have h2 : a.length ≠ 0 := fun e => h0 (List.length_eq_zero_iff.1 e)
  have h3 : a.length - 1 < n := by
   rcases Nat.lt_or_ge (a.length - 1) n with h | h
   ·exact h
   ·have := B_le h; omega
  omega
theorem NM.mono {a b : List Int} (ha : NM a) (hb : DG b) (h : vl a ≤ vl b) : a.length ≤ b.length := ha.len (by have := vl_lt hb; omega)
theorem NM.nil_iff {a : List Int} (h : NM a) : a = [] ↔ vl a = 0 := by
 constructor
 ·rintro rfl; rfl
 ·intro hv; rcases Classical.em (a = []) with h0 | h0
  ·exact h0
  ·have := h.pos h0; omega
theorem vl_take {a : List Int} {i : Nat} (h : i < a.length) : vl (a.take (i + 1)) = vl (a.take i) + B i * a[i] := by
 rw [List.take_add_one, List.getElem?_eq_getElem h]
 show vl (a.take i ++ [a[i]]) = _
 rw [vl_app, vl_one, List.length_take, Nat.min_eq_left (by omega)]
theorem DG.set {a : List Int} (h : DG a) {i : Nat} {d : Int} (h0 : 0 ≤ d) (h1 : d < 10000) : DG (a.set i d) := fun e he => by
 rcases List.mem_or_eq_of_mem_set he with h2 | h2
 ·exact h e h2
 ·subst h2; exact ⟨h0, h1⟩
theorem DG.zero {n : Nat} : DG (List.replicate n 0) := fun d h => by obtain ⟨_, rfl⟩ := List.mem_replicate.1 h; omega
end Go.Proofs.YtemjeommnpocnaaGreat
namespace Go.Proofs.YtemjeommnpocnaaGreat
open Go Go.Iso Go.Proofs
set_option linter.unusedSimpArgs false
set_option linter.unusedVariables false
set_option maxRecDepth 100000
/-! ### Numerals: the reference's -/
def lim : Nat := 100000000
theorem ten_must : must ((10000 : Int) != 0) = some () := rfl
theorem tmod_nn {a b : Int} (h : 0 ≤ a) : a.tmod b = a % b := Int.tmod_eq_emod_of_nonneg h
theorem tdiv_nn {a b : Int} (h : 0 ≤ a) : a.tdiv b = a / b := Int.tdiv_eq_ediv_of_nonneg h
theorem idx_get {α : Type} {l : List α} {i : Nat} (h : i < l.length) : idx l (i : Int) = some l[i] := by rw [idx_nat, List.getElem?_eq_getElem h]
theorem app8 {l : List Int} {d : Int} (h : l.length ≤ 8 * lim) : appO 8 l [d] = some (l ++ [d]) := by
 unfold appO; rw [if_pos (by unfold lim at h; simp only [List.length_singleton]; omega)]
theorem ltT {a b : Int} (h : a < b) : decide (a < b) = true := decide_eq_true h
theorem ltF {a b : Int} (h : b ≤ a) : decide (a < b) = false := decide_eq_false (by omega)
theorem leT {a b : Int} (h : a ≤ b) : decide (a ≤ b) = true := decide_eq_true h
theorem leF {a b : Int} (h : b < a) : decide (a ≤ b) = false := decide_eq_false (by omega)
theorem B_len {a : List Int} {n m : Nat} (h : B n < B m) : n < m := by
 rcases Nat.lt_or_ge n m with h1 | h1
 ·exact h1
 ·have := B_le h1; omega
theorem cut_take {l : List Int} {m : Nat} (h : m ≤ l.length) : cutL l none (some (m : Int)) = some (l.take m) := by
 unfold cutL
 simp only [Option.getD_some, Option.getD_none]
 rw [if_pos (by omega)]; simp
theorem trim_ev {l : List Int} (hd : DG l) (hl : l.length ≤ 8 * lim) : Ev id (fun k => r01_trim k l) fun r => NM r ∧ vl r = vl l ∧ r.length ≤ l.length := by
 unfold r01_trim
 unfold lim at hl
 refine Ev.bind (P := fun n : Int => ∃ m : Nat, n = m ∧ m ≤ l.length ∧ vl (l.take m) = vl l ∧ (l.take m).getLast? ≠ some 0) ?_ ?_
 ·refine Ev.iter (fun n : Int => ∃ m : Nat, n = m ∧ m ≤ l.length ∧ vl (l.take m) = vl l) (fun n => n.toNat) ?_ ⟨l.length, rfl, Nat.le_refl _, by rw [List.take_length]⟩
  rintro n ⟨m, rfl, hm, hv⟩ G hG
  cases m with
  | zero =>
   simp only [ltF (show ((0 : Nat) : Int) ≤ 0 by omega), Bool.false_eq_true, if_false, Option.bind_some, outM_eq, Out.fin_out]
   exact Ev.ret ⟨0, rfl, hm, hv, by simp⟩
  | succ m =>
   have e : IntKind.wrap .i64 (((m + 1 : Nat) : Int) - 1) = (m : Int) := by rw [w64 (by omega) (by omega)]; omega
   have hm' : m < l.length := by omega
   simp only [ltT (show (0 : Int) < ((m + 1 : Nat) : Int) by omega), if_true, e, idx_get hm', Option.bind_some]
   by_cases hz : l[m] = 0
   ·simp only [hz, beq_self_eq_true, if_true, Option.bind_some, Out.fin_go]
    refine hG _ ⟨m, rfl, by omega, ?_⟩ (by simp)
    rw [vl_take hm', hz, Int.mul_zero, Int.add_zero] at hv; exact hv
   ·simp only [show (l[m] == 0) = false from beq_eq_false_iff_ne.2 hz, Bool.false_eq_true, if_false, Option.bind_some, outM_eq, Out.fin_out]
    refine Ev.ret ⟨m + 1, rfl, hm, hv, ?_⟩
    rw [List.take_add_one, List.getElem?_eq_getElem hm']
    show (l.take m ++ [l[m]]).getLast? ≠ some 0
    simp only [List.getLast?_append, List.getLast?_singleton, Option.some_or, ne_eq, Option.some.injEq]; exact hz
 ·rintro n ⟨m, rfl, hm, hv, hg⟩
  exact Ev.op _ (cut_take hm) (Ev.ret ⟨⟨hd.take m, hg⟩, hv, by rw [List.length_take]; omega⟩)
theorem carry (b s : Int) : b * (s % 10000) + 10000 * b * (s / 10000) = b * s := by
 have h := Int.emod_add_mul_ediv s 10000
 calc b * (s % 10000) + 10000 * b * (s / 10000) = b * (s % 10000 + 10000 * (s / 10000)) := by rw [Int.mul_add, Int.mul_comm 10000 b, Int.mul_assoc]
  _ = b * s := by rw [h]
theorem Small_ev {a : List Int} {k c : Int} (hd : DG a) (hl : a.length ≤ 4 * lim) (k0 : 0 ≤ k) (k1 : k ≤ 65536) (c0 : 0 ≤ c) (c1 : c < 65536) :
  Ev id (fun K => r01_Small K a k c) fun r => NM r ∧ vl r = vl a * k + c ∧ r.length ≤ a.length + 2 := by
 unfold r01_Small
 unfold lim at hl
 have hva := vl_nn hd
 have hvb := vl_lt hd
 have hV : vl a * k + c < B (a.length + 2) := by
  have h1 : vl a * k ≤ vl a * 65536 := Int.mul_le_mul_of_nonneg_left k1 hva
  have h2 : B (a.length + 2) = 10000 * (10000 * B a.length) := by rw [show a.length + 2 = a.length + 1 + 1 from rfl, B_succ, B_succ]
  omega
 refine Ev.op [] (by rw [w64 (by omega) (by omega)]; unfold makC; rw [if_pos (by omega)]; rfl) ?_
 refine Ev.bind (P := fun s : Int × List Int => 0 ≤ s.1 ∧ s.1 ≤ 65536 ∧ DG s.2 ∧ s.2.length = a.length ∧ vl s.2 + B s.2.length * s.1 = vl a * k + c) ?_ ?_
 ·refine Ev.iter (fun s : Int × Int × List Int => ∃ i : Nat, s.2.1 = i ∧ i ≤ a.length ∧ 0 ≤ s.1 ∧ s.1 ≤ 65536 ∧ DG s.2.2 ∧ s.2.2.length = i ∧ vl s.2.2 + B i * s.1 = vl (a.take i) * k + c) (fun s => a.length - s.2.1.toNat) ?_ ⟨0, rfl, by omega, c0, by omega, DG.nil, rfl, by simp [vl, B_zero]⟩
  rintro ⟨z, i', out⟩ ⟨i, rfl, hi, a0, a1, a2, a3, a4⟩ G hG
  dsimp only at a0 a1 a2 a3 a4 hG ⊢
  by_cases hi' : i < a.length
  ·have hdi := hd.get hi'
   have p0 : 0 ≤ a[i] * k := Int.mul_nonneg hdi.1 k0
   have p1 : a[i] * k ≤ 9999 * 65536 := Int.le_trans (Int.mul_le_mul_of_nonneg_right (show a[i] ≤ 9999 by omega) k0) (Int.mul_le_mul_of_nonneg_left k1 (by omega))
   generalize hp : a[i] * k = p at p0 p1
   simp only [ltT (show (i : Int) < (a.length : Int) by omega), if_true, idx_get hi', hp, w64 (show -9223372036854775808 ≤ p by omega) (by omega), w64 (show -9223372036854775808 ≤ z + p by omega) (by omega), tmod_nn (show 0 ≤ z + p by omega), tdiv_nn (show 0 ≤ z + p by omega), ten_must, Option.bind_some, app8 (show out.length ≤ 8 * lim by unfold lim; omega), w64 (show -9223372036854775808 ≤ (z + p) / 10000 by omega) (by omega), w64s (show i < 9223372036854775807 by omega)]
   refine hG _ ⟨i + 1, rfl, by omega, by omega, by omega, a2.app (DG.one (by omega) (by omega)), by simp [a3], ?_⟩ (by simp only [Int.toNat_natCast]; omega)
   dsimp only; rw [vl_app, vl_one, a3, B_succ, vl_take hi', Int.add_mul, Int.mul_assoc (B i), hp]
   have h1 := carry (B i) (z + p)
   rw [Int.mul_add] at h1; omega
  ·obtain rfl : i = a.length := by omega
   simp only [ltF (Int.le_refl (a.length : Int)), Bool.false_eq_true, if_false]
   rw [List.take_length] at a4
   exact Ev.ret ⟨a0, a1, a2, a3, by rw [a3]; exact a4⟩
 ·rintro ⟨z, out⟩ ⟨a0, a1, a2, a3, a4⟩
  dsimp only at a0 a1 a2 a3 a4 ⊢
  refine Ev.bind (P := fun o => DG o ∧ vl o = vl a * k + c ∧ o.length ≤ a.length + 2) ?_ fun o ho => ?_
  ·refine Ev.iter (fun s : Int × List Int => 0 ≤ s.1 ∧ s.1 ≤ 65536 ∧ DG s.2 ∧ vl s.2 + B s.2.length * s.1 = vl a * k + c ∧ s.2.length ≤ a.length + 2) (fun s => s.1.toNat) ?_ ⟨a0, a1, a2, a4, by show out.length ≤ _; omega⟩
   rintro ⟨z, out⟩ ⟨a0, a1, a2, a4, a5⟩ G hG
   dsimp only at a0 a1 a2 a4 a5 hG ⊢
   by_cases hz : z = 0
   ·subst hz
    simp only [ltF (Int.le_refl 0), Bool.false_eq_true, if_false]
    exact Ev.ret ⟨a2, by omega, a5⟩
   ·have hv := vl_nn a2
    have hB : B out.length * 1 ≤ B out.length * z := Int.mul_le_mul_of_nonneg_left (by omega) (Int.le_of_lt B_pos)
    have hlt : out.length < a.length + 2 := B_len (a := a) (by omega)
    simp only [ltT (show 0 < z by omega), if_true, ten_must, Option.bind_some, app8 (show out.length ≤ 8 * lim by unfold lim; omega), tmod_nn a0, tdiv_nn a0, w64 (show -9223372036854775808 ≤ z / 10000 by omega) (show z / 10000 ≤ 9223372036854775807 by omega)]
    refine hG _ ⟨by omega, by omega, a2.app (DG.one (by omega) (by omega)), ?_, by simp; omega⟩ (by omega)
    dsimp only; rw [vl_app, vl_one, List.length_append, List.length_singleton, B_succ]
    have := carry (B out.length) z; omega
  ·refine Ev.bind (trim_ev ho.1 (by unfold lim; omega)) fun r hr => Ev.ret ⟨hr.1, by omega, by omega⟩
theorem and16 {x : Int} (h0 : 0 ≤ x) (h1 : x < 4294967296) : bAnd .u32 x 65535 = x % 65536 := by
 obtain ⟨n, rfl⟩ : ∃ n : Nat, x = n := ⟨x.toNat, by omega⟩
 unfold bAnd
 have e : (BitVec.ofInt IntKind.u32.bits (n : Int) &&& BitVec.ofInt IntKind.u32.bits 65535).toNat = n % 65536 := by
  show (BitVec.ofInt 32 (n : Int) &&& BitVec.ofInt 32 65535).toNat = n % 65536
  rw [BitVec.toNat_and, BitVec.ofInt_natCast, BitVec.toNat_ofNat, show (BitVec.ofInt 32 65535).toNat = 2 ^ 16 - 1 from rfl, Nat.and_two_pow_sub_one_eq_mod]
  omega
 rw [e]
 simp [IntKind.wrap, IntKind.bits, IntKind.signed]
 omega
theorem shr16 {x : Int} : bShr .u32 x 16 = x / 65536 := by
 unfold bShr
 show x.fdiv (2 ^ 16) = _
 rw [Int.fdiv_eq_ediv_of_nonneg _ (by decide)]; rfl
def wv : List Int → Int
 | [] => 0
 | z :: l => z + 4294967296 * wv l
def WD (l : List Int) : Prop := ∀ z ∈ l, 0 ≤ z ∧ z < 4294967296
theorem wv_nn : ∀ {l : List Int}, WD l → 0 ≤ wv l
 | [], _ => Int.le_refl _
 | z :: l, h => by
  have := wv_nn (l := l) fun x hx => h x (List.mem_cons_of_mem _ hx)
  have := h z (List.mem_cons_self ..)
  unfold wv; omega
theorem wv_pos : ∀ {l : List Int}, WD l → l ≠ [] → l.getLast? ≠ some 0 → 0 < wv l
 | [], _, h, _ => absurd rfl h
 | [z], hw, _, h => by
  have := hw z (List.mem_cons_self ..)
  have : z ≠ 0 := fun e => h (by rw [e]; rfl)
  unfold wv wv; omega
 | z :: y :: l, hw, _, h => by
  have h1 := wv_pos (l := y :: l) (fun x hx => hw x (List.mem_cons_of_mem _ hx)) (by simp) (by rw [List.getLast?_cons_cons] at h; exact h)
  have := hw z (List.mem_cons_self ..)
  rw [wv]; omega
theorem wv_drop {l : List Int} {i : Nat} (h : i < l.length) : wv (l.drop i) = l[i] + 4294967296 * wv (l.drop (i + 1)) := by
 rw [List.drop_eq_getElem_cons h]; rfl
theorem Of_ev {ws : List Int} (hw : WD ws) (hl : ws.length ≤ lim / 2) : Ev id (fun K => r01_Of K ws) fun r => NM r ∧ r.length ≤ 4 * ws.length ∧ vl r = wv ws := by
 unfold r01_Of
 unfold lim at hl
 refine Ev.bind (P := fun r => NM r ∧ r.length ≤ 4 * ws.length ∧ vl r = wv ws) ?_ fun r hr => Ev.ret hr
 refine Ev.iter (fun s : List Int × Int => ∃ i : Nat, s.2 = (i : Int) - 1 ∧ i ≤ ws.length ∧ NM s.1 ∧ s.1.length ≤ 4 * (ws.length - i) ∧ vl s.1 = wv (ws.drop i)) (fun s => (s.2 + 1).toNat) ?_ ⟨ws.length, by rw [w64 (by omega) (by omega)], by omega, NM.nil, by simp, by rw [List.drop_length]; rfl⟩
 rintro ⟨out, i'⟩ ⟨i, e, hi, a0, a1, a2⟩ G hG
 dsimp only at e a0 a1 a2 hG ⊢
 subst e
 cases i with
 | zero =>
  simp only [leF (show (((0 : Nat) : Int) - 1) < 0 by omega), Bool.false_eq_true, if_false]
  exact Ev.ret ⟨a0, by omega, by simpa using a2⟩
 | succ i =>
  have hi' : i < ws.length := by omega
  have hz := hw _ (List.getElem_mem hi')
  have e : (((i + 1 : Nat) : Int) - 1) = (i : Int) := by omega
  simp only [e] at hG ⊢
  simp only [leT (show (0 : Int) ≤ (i : Int) by omega), if_true, idx_get hi', Option.bind_some, show must (decide ((0 : Int) ≤ 16)) = some () from rfl, shr16, and16 hz.1 hz.2, w64 (show -9223372036854775808 ≤ ws[i] / 65536 by omega) (by omega), w64 (show -9223372036854775808 ≤ ws[i] % 65536 by omega) (by omega), w64 (show -9223372036854775808 ≤ (i : Int) - 1 by omega) (by omega)]
  refine Ev.bind (Small_ev a0.1 (by unfold lim; omega) (by omega) (by omega) (by omega) (by omega)) fun u hu => ?_
  refine Ev.bind (Small_ev hu.1.1 (by unfold lim; omega) (by omega) (by omega) (by omega) (by omega)) fun v hv => ?_
  refine hG _ ⟨i, rfl, by omega, hv.1, by dsimp only; omega, ?_⟩ (by dsimp only; omega)
  dsimp only
  rw [hv.2.1, hu.2.1, a2, wv_drop hi']; omega
def digL (v : Nat) : List Int := if h : v = 0 then [] else digL (v / 10) ++ [((48 + v % 10 : Nat) : Int)]
termination_by v
decreasing_by omega
theorem digL_zero : digL 0 = [] := by rw [digL]; rfl
theorem digL_pos {v : Nat} (h : v ≠ 0) : digL v = digL (v / 10) ++ [((48 + v % 10 : Nat) : Int)] := by rw [digL, dif_neg h]
theorem digL_ne {v : Nat} (h : v ≠ 0) : 0 < (digL v).length := by rw [digL_pos h]; simp
theorem digL_step {v d : Nat} (hd : d < 10) : digL (10 * v + d) = if 0 < (digL v).length ∨ 0 < d then digL v ++ [((48 + d : Nat) : Int)] else digL v := by
 by_cases h : 10 * v + d = 0
 ·have h1 : v = 0 := by omega
  have h2 : d = 0 := by omega
  subst h1 h2
  rw [digL_zero]; rfl
 ·rw [digL_pos h]
  have e1 : (10 * v + d) / 10 = v := by omega
  have e2 : (10 * v + d) % 10 = d := by omega
  rw [e1, e2, if_pos]
  by_cases hv : v = 0
  ·right; omega
  ·left; exact digL_ne hv
theorem digL_lt : ∀ {m v : Nat}, v < 10 ^ m → (digL v).length ≤ m
 | 0, v, h => by
  obtain rfl : v = 0 := by simpa using h
  rw [digL_zero]; exact Nat.le_refl _
 | m + 1, v, h => by
  by_cases h0 : v = 0
  ·subst h0; rw [digL_zero]; simp
  ·rw [digL_pos h0, List.length_append, List.length_singleton]
   have := digL_lt (m := m) (v := v / 10) (by rw [Nat.pow_succ] at h; omega)
   omega
theorem digL_succ {v d : Nat} (hd : d < 10) : (digL (10 * v + d)).length ≤ (digL v).length + 1 := by
 rw [digL_step hd]; split <;> simp
theorem appO_fit {α : Type} {b : Nat} {l r : List α} (h : (2 * (l.length + r.length) + 1000) * b ≤ 2 ^ 48) : appO b l r = some (l ++ r) := by
 unfold appO; rw [if_pos h]
theorem textIn_eq {K : Nat} {a : Int} {v : Nat} (ha0 : 0 ≤ a) (ha : a < 10000) (hv : (digL v).length ≤ 1000000000) (hK : 4 < K) :
  iter K (S := Int × (List Int)) (R := (List Int)) (fun again (q : Int × List Int) =>
     if (decide ((0 : Int) < q.1)) = true then
      (((must (q.1 != 0)).bind fun z16 =>
       ((
        if (decide ((0 : Int) < (q.2.length : Int))) = true then
         some true
        else
         some (decide ((0 : Int) < ((IntKind.wrap .i64 (a.tdiv q.1)).tmod (10 : Int))))) : Option Bool).bind (fun v20_0 =>
       if v20_0 = true then
        (appO 1 q.2 [IntKind.wrap .u8 (IntKind.wrap .i64 ((48 : Int) + ((IntKind.wrap .i64 (a.tdiv q.1)).tmod (10 : Int))))]).bind fun l24 =>
        some l24
       else
        some q.2)) : Option (List Int)).bind (fun v12_0 =>
      again (IntKind.wrap .i64 (q.1.tdiv (10 : Int)), v12_0))
     else
      some q.2) ((1000 : Int), digL v) = some (digL (10000 * v + a.toNat)) := by
 obtain ⟨a, rfl⟩ : ∃ n : Nat, a = n := ⟨a.toNat, by omega⟩
 simp only [Int.toNat_natCast]
 refine foldG 4 (fun i => (((1000 / 10 ^ i : Nat) : Int), digL (v * 10 ^ i + a / 10 ^ (4 - i)))) _ (fun g i hi => ?_) (fun g => ?_) hK (by
  have : v * 10 ^ 0 + a / 10 ^ (4 - 0) = v := by simp; omega
  simp only [this]; rfl)
 rotate_left
 ·have : v * 10 ^ 4 + a / 10 ^ (4 - 4) = 10000 * v + a := by simp; omega
  simp only [this]; rfl
 have step : ∀ (k u d w : Nat), 0 < k → k ≤ 1000 → d = a / k % 10 → w = 10 * u + d → (digL u).length ≤ 2000000000000 →
   (((must ((k : Int) != 0)).bind fun z16 =>
       ((
        if (decide ((0 : Int) < ((digL u).length : Int))) = true then
         some true
        else
         some (decide ((0 : Int) < ((IntKind.wrap .i64 ((a : Int).tdiv (k : Int))).tmod (10 : Int))))) : Option Bool).bind (fun v20_0 =>
       if v20_0 = true then
        (appO 1 (digL u) [IntKind.wrap .u8 (IntKind.wrap .i64 ((48 : Int) + ((IntKind.wrap .i64 ((a : Int).tdiv (k : Int))).tmod (10 : Int))))]).bind fun l24 =>
        some l24
       else
        some (digL u))) : Option (List Int)) = some (digL w) := by
  intro k u d w hk hk2 hd hw hu
  have m1 : must ((k : Int) != 0) = some () := by
   have : ((k : Int) != 0) = true := by rw [bne_iff_ne]; omega
   rw [this]; rfl
  have e1 : IntKind.wrap .i64 ((a : Int).tdiv (k : Int)) = ((a / k : Nat) : Int) := by
   have h2 : a / k ≤ a := Nat.div_le_self _ _
   have : (a : Int).tdiv (k : Int) = ((a / k : Nat) : Int) := rfl
   rw [this]
   generalize a / k = q at h2
   exact w64 (by omega) (by omega)
  have e2 : ((a / k : Nat) : Int).tmod 10 = (d : Int) := by rw [hd]; rfl
  have hd10 : d < 10 := by omega
  have e3 : IntKind.wrap .i64 ((48 : Int) + (d : Int)) = ((48 + d : Nat) : Int) := by rw [w64 (by omega) (by omega)]; omega
  have e4 : IntKind.wrap .u8 ((48 + d : Nat) : Int) = ((48 + d : Nat) : Int) := by
   have h9 : ((48 + d : Nat) : Int) % 256 = ((48 + d : Nat) : Int) := by omega
   simp only [IntKind.wrap, IntKind.bits, IntKind.signed, Bool.false_and, Bool.false_eq_true, if_false]
   exact h9
  rw [m1, e1, e2, e3, e4, hw, digL_step hd10]
  rw [Option.bind_some]
  have c1 : decide ((0 : Int) < ((digL u).length : Int)) = decide (0 < (digL u).length) := by simp
  have c2 : decide ((0 : Int) < (d : Int)) = decide (0 < d) := by simp
  rw [c1, c2, orO, Option.bind_some, appO_fit (by simp only [List.length_singleton]; omega), Option.bind_some]
  by_cases h : 0 < (digL u).length ∨ 0 < d
  ·rw [if_pos h, if_pos (by simpa using h)]
  ·rw [if_neg h, if_neg (by simpa using h)]
 have h10 : ∀ j : Nat, 1000 / 10 ^ (j + 1) = 1000 / 10 ^ j / 10 := fun j => by rw [Nat.pow_succ, Nat.div_div_eq_div_mul]
 have hpos : 0 < 1000 / 10 ^ i := by
  match i, hi with
  | 0, _ => decide
  | 1, _ => decide
  | 2, _ => decide
  | 3, _ => decide
 have hle : 1000 / 10 ^ i ≤ 1000 := Nat.div_le_self _ _
 rw [if_pos (by simp only [decide_eq_true_eq]; omega)]
 have hw : v * 10 ^ (i + 1) + a / 10 ^ (4 - (i + 1)) = 10 * (v * 10 ^ i + a / 10 ^ (4 - i)) + a / (1000 / 10 ^ i) % 10 := by
  match i, hi with
  | 0, _ => simp; omega
  | 1, _ => simp; omega
  | 2, _ => simp; omega
  | 3, _ => simp; omega
 have hu : (digL (v * 10 ^ i + a / 10 ^ (4 - i))).length ≤ 2000000000000 := by
  have h1 : (digL (v * 10 ^ i + a / 10 ^ (4 - i))).length ≤ (digL v).length + i := by
   match i, hi with
   | 0, _ =>
    rw [show v * 10 ^ 0 + a / 10 ^ (4 - 0) = v by simp; omega]; simp
   | 1, _ =>
    rw [show v * 10 ^ 1 + a / 10 ^ (4 - 1) = 10 * v + a / 1000 by simp; omega]; exact digL_succ (by omega)
   | 2, _ =>
    rw [show v * 10 ^ 2 + a / 10 ^ (4 - 2) = 10 * (10 * v + a / 1000) + a / 100 % 10 by simp; omega]
    exact Nat.le_trans (digL_succ (by omega)) (Nat.succ_le_succ (digL_succ (by omega)))
   | 3, _ =>
    rw [show v * 10 ^ 3 + a / 10 ^ (4 - 3) = 10 * (10 * (10 * v + a / 1000) + a / 100 % 10) + a / 10 % 10 by simp; omega]
    exact Nat.le_trans (digL_succ (by omega)) (Nat.succ_le_succ (Nat.le_trans (digL_succ (by omega)) (Nat.succ_le_succ (digL_succ (by omega)))))
  omega
 refine ob _ (step _ _ _ _ hpos hle rfl hw hu) ?_
 have e5 : IntKind.wrap .i64 (((1000 / 10 ^ i : Nat) : Int).tdiv 10) = ((1000 / 10 ^ (i + 1) : Nat) : Int) := by
  rw [h10]
  generalize 1000 / 10 ^ i = q at hle
  have : (q : Int).tdiv 10 = ((q / 10 : Nat) : Int) := rfl
  rw [this]; exact w64 (by omega) (by omega)
 rw [e5]
def valL : List Int → Nat
 | [] => 0
 | x :: l => x.toNat + 10000 * valL l
theorem valL_vl : ∀ {l : List Int}, DG l → (valL l : Int) = vl l
 | [], _ => rfl
 | d :: l, h => by
  have := valL_vl h.tail
  have := h d (List.mem_cons_self ..)
  unfold valL vl; omega
theorem valL_lt {l : List Int} (h : DG l) : valL l < 10 ^ (4 * l.length) := by
 have h1 := vl_lt h
 rw [← valL_vl h] at h1
 have h2 : B l.length = ((10 ^ (4 * l.length) : Nat) : Int) := by
  unfold B; rw [Nat.pow_mul]; simp
 omega
theorem valL_dig {l : List Int} (h : DG l) (hl : l.length ≤ 100000000) : (digL (valL l)).length ≤ 400000000 := by
 have := digL_lt (valL_lt h); omega
theorem r01_Text_eq {K : Nat} {l : List Int} (hl : DG l) (hlen : l.length ≤ 100000000) (hK : 4 < K) (hK2 : l.length < K) :
  r01_Text K l = some (if l.length = 0 then ⟨#[48]⟩ else strOfNums (digL (valL l))) := by
 unfold r01_Text
 by_cases h0 : l.length = 0
 ·rw [if_pos (int_eq0 h0), if_pos h0]
 ·rw [if_neg (by rw [int_ne0 h0]; simp), if_neg h0]
  have m1 : must ((10 : Int) != 0) = some () := rfl
  refine ob _ (foldG l.length (fun j => (((l.length : Int) - 1 - (j : Int)), digL (valL (l.drop (l.length - j))))) (digL (valL l)) (fun g i hi => ?_) (fun g => ?_) hK2 ?_) rfl
  ·have hidx : idx l ((l.length : Int) - 1 - (i : Int)) = some (l[l.length - 1 - i]'(by omega)) := by
    have e : ((l.length : Int) - 1 - (i : Int)) = ((l.length - 1 - i : Nat) : Int) := by omega
    rw [e]; unfold idx; rw [if_pos (by omega)]
    simp only [Int.toNat_natCast]; exact List.getElem?_eq_getElem (by omega)
   have hx := hl _ (List.getElem_mem (show l.length - 1 - i < l.length by omega))
   generalize hxx : l[l.length - 1 - i]'(by omega) = x at hidx hx
   have e1 : l.drop (l.length - (i + 1)) = x :: l.drop (l.length - i) := by
    have e : l.length - (i + 1) = l.length - 1 - i := by omega
    rw [e, List.drop_eq_getElem_cons (by omega), hxx]
    congr 2; omega
   have hvd := valL_dig (hl.drop (l.length - i)) (by rw [List.length_drop]; omega)
   simp only
   rw [if_pos (by simp only [decide_eq_true_eq]; omega)]
   have hin := textIn_eq (K := K) (a := x) (v := valL (l.drop (l.length - i))) hx.1 hx.2 (by omega) hK
   refine ob _ (Eq.trans ?_ hin) ?_
   ·simp only [hidx, m1, Option.bind_some]
   ·have e2 : IntKind.wrap .i64 ((l.length : Int) - 1 - (i : Int) - 1) = (l.length : Int) - 1 - ((i + 1 : Nat) : Int) := by rw [w64 (by omega) (by omega)]; omega
    have e3 : 10000 * valL (l.drop (l.length - i)) + x.toNat = valL (l.drop (l.length - (i + 1))) := by rw [e1, valL]; omega
    rw [e2, e3]
  ·simp only
   rw [if_neg (by simp only [decide_eq_true_eq]; omega)]
   simp
  ·rw [w64 (by omega) (by omega)]
   simp [digL_zero, valL]
theorem Text_ev {r : RatA} (hw : WD r.num) (hl : r.num.length ≤ 1000) (hn : r.neg = false) (hd : r.den = [1]) (hz : r.num.getLast? ≠ some 0) :
  Ev id (fun K => (r02_Of K r).bind fun q => r02_Text K q) fun s => s = if r.num = [] then ⟨#[48]⟩ else strOfNums (digL (wv r.num).toNat) := by
 have h1 : Ev id (fun K => r02_Of K r) fun q => q.neg = false ∧ (NM q.n ∧ q.n.length ≤ 4 * r.num.length ∧ vl q.n = wv r.num) ∧ q.d = [1] := by
  unfold r02_Of
  refine Ev.bind (Of_ev hw (by unfold lim; omega)) fun n hn' => ?_
  rw [hd]
  refine Ev.bind (Of_ev (ws := [1]) (fun z hz => by obtain rfl := List.mem_singleton.1 hz; omega) (by unfold lim; simp)) fun d hd' => ?_
  refine Ev.ret ⟨hn, hn', ?_⟩
  have hv : vl d = 1 := by rw [hd'.2.2]; rfl
  have hlen := hd'.1.len (n := 1) (by rw [hv, B_succ, B_zero]; omega)
  show d = [1]
  match d, hlen, hv with
  | [], _, hv => cases hv
  | [x], _, hv => rw [vl_one] at hv; rw [hv]
  | x :: y :: l, hlen, _ => simp at hlen
 refine Ev.bind h1 fun q hq => ?_
 obtain ⟨q0, ⟨q1, q2, q3⟩, q4⟩ := hq
 unfold r02_Text
 have hlen : q.n.length ≤ 4000 := by omega
 refine Ev.late (q.n.length + 10) (r := if r.num = [] then ⟨#[48]⟩ else strOfNums (digL (wv r.num).toNat)) (fun K hK => ?_) rfl
 have hK' : q.n.length + 10 ≤ K := hK
 have hT := r01_Text_eq (K := K) q1.1 (by omega) (by omega) (by omega)
 have hC : r01_Cmp K [1] [1] = some 0 := by
  unfold r01_Cmp
  obtain ⟨k, rfl⟩ : ∃ k, K = k + 2 := ⟨K - 2, by omega⟩
  rfl
 rw [hT]
 simp only [q0, q4, Bool.false_eq_true, if_false, Option.bind_some, hC]
 show some _ = some _
 congr 1
 have hv : (valL q.n : Int) = wv r.num := by rw [valL_vl q1.1, q3]
 by_cases h0 : r.num = []
 ·rw [if_pos h0, if_pos]
  have : vl q.n = 0 := by rw [q3, h0]; rfl
  rw [q1.nil_iff.2 this]; rfl
 ·have hp := wv_pos hw h0 hz
  have hne : q.n.length ≠ 0 := fun e => by
   rw [List.length_eq_zero_iff] at e
   rw [e] at q3; rw [← q3] at hp; exact absurd hp (by decide)
  rw [if_neg hne, if_neg h0]
  congr 2; omega
end Go.Proofs.YtemjeommnpocnaaGreat
namespace Go.Proofs.YtemjeommnpocnaaGreat
open Go Go.Iso Go.Proofs
set_option linter.unusedSimpArgs false
set_option linter.unusedVariables false
set_option maxRecDepth 100000
/-! ### Numerals: the program's -/
def pd : Nat → Nat → List Int
 | 0, _ => []
 | k + 1, v => pd k (v / 10) ++ [((48 + v % 10 : Nat) : Int)]
theorem pd_len : ∀ k v, (pd k v).length = k
 | 0, _ => rfl
 | k + 1, v => by rw [pd, List.length_append, pd_len k]; rfl
theorem digL_pd : ∀ (k q r : Nat), 0 < q → r < 10 ^ k → digL (q * 10 ^ k + r) = digL q ++ pd k r
 | 0, q, r, hq, hr => by
  obtain rfl : r = 0 := by simpa using hr
  simp [pd]
 | k + 1, q, r, hq, hr => by
  have hp : 0 < 10 ^ k := Nat.pow_pos (by omega)
  have h1 : q * 10 ^ (k + 1) + r ≠ 0 := by
   have : 0 < q * 10 ^ (k + 1) := Nat.mul_pos hq (Nat.pow_pos (by omega))
   omega
  have e0 : q * 10 ^ (k + 1) + r = 10 * (q * 10 ^ k) + r := by rw [Nat.pow_succ, ← Nat.mul_assoc]; omega
  have e1 : (q * 10 ^ (k + 1) + r) / 10 = q * 10 ^ k + r / 10 := by rw [e0]; omega
  have e2 : (q * 10 ^ (k + 1) + r) % 10 = r % 10 := by rw [e0]; omega
  rw [digL_pos h1, e1, e2, digL_pd k q (r / 10) hq (by rw [Nat.pow_succ] at hr; omega), pd, List.append_assoc]
theorem pd_digL : ∀ (k v : Nat), v / 10 ^ k = 0 → (∀ j, j < k → 0 < v / 10 ^ j) → pd k v = digL v
 | 0, v, h, _ => by
  obtain rfl : v = 0 := by simpa using h
  rw [digL_zero]; rfl
 | k + 1, v, h, hj => by
  have h0 : 0 < v := by simpa using hj 0 (by omega)
  rw [digL_pos (by omega), pd, pd_digL k (v / 10) (by rw [Nat.div_div_eq_div_mul, ← Nat.pow_succ']; exact h) fun j hj' => by
   have := hj (j + 1) (by omega)
   rwa [Nat.div_div_eq_div_mul, ← Nat.pow_succ']]
theorem pd_step (k v : Nat) : (pd (k + 1) v).reverse = (pd k v).reverse ++ [((48 + v / 10 ^ k % 10 : Nat) : Int)] := by
 induction k generalizing v with
 | zero => simp [pd]
 | succ k ih =>
  rw [pd, List.reverse_append, ih (v / 10)]
  rw [show (pd (k + 1) v).reverse = ((48 + v % 10 : Nat) : Int) :: (pd k (v / 10)).reverse by rw [pd, List.reverse_append]; rfl]
  rw [Nat.div_div_eq_div_mul, ← Nat.pow_succ']
  rfl
theorem swapAll {K : Nat} (hK : 20 ≤ K) : ∀ (l : List Int), l.length ≤ 9 →
  iter (S := Int × Int × (List Int)) (R := (List Int)) K (fun again (q : Int × Int × List Int) =>
  if (decide (q.1 < q.2.1)) then
   (idx q.2.2 q.2.1).bind fun x22 =>
   (idx q.2.2 q.1).bind fun x24 =>
   (idx (q.2.2.set (q.1.toNat) x22) q.2.1).bind fun x26 =>
   again (IntKind.wrap .i64 (q.1 + (1 : Int)), IntKind.wrap .i64 (q.2.1 - (1 : Int)), ((q.2.2.set (q.1.toNat) x22).set (q.2.1.toNat) x24))
  else
   some q.2.2) ((0 : Int), IntKind.wrap .i64 ((l.length : Int) - (1 : Int)), l) = some l.reverse := by
 obtain ⟨k, rfl⟩ : ∃ k, K = k + 20 := ⟨K - 20, by omega⟩
 intro l hl
 match l, hl with
 | [], _ => rfl
 | [a], _ => rfl
 | [a, b], _ => rfl
 | [a, b, c], _ => rfl
 | [a, b, c, d], _ => rfl
 | [a, b, c, d, e], _ => rfl
 | [a, b, c, d, e, f], _ => rfl
 | [a, b, c, d, e, f, g], _ => rfl
 | [a, b, c, d, e, f, g, h], _ => rfl
 | [a, b, c, d, e, f, g, h, i], _ => rfl
theorem digits_eq {K : Nat} (hK : 20 ≤ K) {v m : Nat} {least : Int} (hm : m ≤ 9) (hv : v < 18446744073709551616) (h1 : ∀ j, j < m → 0 < v / 10 ^ j ∨ (j : Int) < least) (h2 : v / 10 ^ m = 0) (h3 : least ≤ (m : Int)) :
  nat_digits K (v : Int) least = some (pd m v) := by
 unfold nat_digits
 have m1 : must ((10 : Int) != 0) = some () := rfl
 refine ob (pd m v).reverse (foldG m (fun j => (((v / 10 ^ j : Nat) : Int), (pd j v).reverse)) _ (fun g j hj => ?_) (fun g => ?_) (by omega) (by simp [pd])) ?_
 ·have hle : v / 10 ^ j ≤ v := Nat.div_le_self _ _
  have hd : v / 10 ^ (j + 1) = v / 10 ^ j / 10 := by rw [Nat.pow_succ, Nat.div_div_eq_div_mul]
  have hc : (decide ((0 : Int) < ((v / 10 ^ j : Nat) : Int)) || decide ((((pd j v).reverse).length : Int) < least)) = true := by
   rw [List.length_reverse, pd_len]
   rw [Bool.or_eq_true, decide_eq_true_eq, decide_eq_true_eq]
   rcases h1 j hj with h | h
   ·left; omega
   ·right; exact h
  dsimp only
  rw [orO, Option.bind_some, hc]
  simp only [if_true, Option.bind_some, Out.fin_go, m1]
  rw [hd, pd_step]
  generalize v / 10 ^ j = u at hle
  have e0 : (u : Int).tmod 10 = ((u % 10 : Nat) : Int) := rfl
  have e1 : (u : Int).tdiv 10 = ((u / 10 : Nat) : Int) := rfl
  have e2 : IntKind.wrap .u64 ((48 : Int) + ((u % 10 : Nat) : Int)) = ((48 + u % 10 : Nat) : Int) := by
   simp only [IntKind.wrap, IntKind.bits, IntKind.signed, Bool.false_and, Bool.false_eq_true, if_false]; omega
  have e3 : IntKind.wrap .u8 ((48 + u % 10 : Nat) : Int) = ((48 + u % 10 : Nat) : Int) := by
   simp only [IntKind.wrap, IntKind.bits, IntKind.signed, Bool.false_and, Bool.false_eq_true, if_false]; omega
  have e4 : IntKind.wrap .u64 ((u / 10 : Nat) : Int) = ((u / 10 : Nat) : Int) := by
   simp only [IntKind.wrap, IntKind.bits, IntKind.signed, Bool.false_and, Bool.false_eq_true, if_false]; omega
  rw [e0, e1, e2, e3, e4, appO_fit (by rw [List.length_reverse, pd_len, List.length_singleton]; omega)]
  rfl
 ·have hc : (decide ((0 : Int) < ((v / 10 ^ m : Nat) : Int)) || decide ((((pd m v).reverse).length : Int) < least)) = false := by
   rw [List.length_reverse, pd_len, h2]
   simp; omega
  dsimp only
  rw [orO, Option.bind_some, hc]
  rfl
 ·have := swapAll hK (pd m v).reverse (by rw [List.length_reverse, pd_len]; exact hm)
  rw [List.reverse_reverse] at this
  exact ob _ this rfl
end Go.Proofs.YtemjeommnpocnaaGreat
namespace Go.Proofs.YtemjeommnpocnaaGreat
open Go Go.Iso Go.Proofs
set_option linter.unusedSimpArgs false
set_option linter.unusedVariables false
set_option maxRecDepth 100000
/-! ### Magnitudes divided by a word -/
theorem u64w {z : Int} (h0 : 0 ≤ z) (h1 : z < 18446744073709551616) : IntKind.wrap .u64 z = z := by
 simp only [IntKind.wrap, IntKind.bits, IntKind.signed, Bool.false_and, Bool.false_eq_true, if_false]; omega
theorem u32w {z : Int} (h0 : 0 ≤ z) (h1 : z < 4294967296) : IntKind.wrap .u32 z = z := by
 simp only [IntKind.wrap, IntKind.bits, IntKind.signed, Bool.false_and, Bool.false_eq_true, if_false]; omega
theorem shlOr {r a : Int} (r0 : 0 ≤ r) (r1 : r < 4294967296) (a0 : 0 ≤ a) (a1 : a < 4294967296) : bOr .u64 (bShl .u64 r 32) (IntKind.wrap .u64 a) = 4294967296 * r + a := by
 obtain ⟨r, rfl⟩ : ∃ n : Nat, r = n := ⟨r.toNat, by omega⟩
 obtain ⟨a, rfl⟩ : ∃ n : Nat, a = n := ⟨a.toNat, by omega⟩
 have e1 : bShl .u64 (r : Int) 32 = ((r * 2 ^ 32 : Nat) : Int) := by
  unfold bShl
  show IntKind.wrap .u64 ((r : Int) * 2 ^ 32) = _
  rw [u64w (by omega) (by omega)]; simp
 rw [e1, u64w a0 (by omega)]
 unfold bOr
 have e : (BitVec.ofInt IntKind.u64.bits ((r * 2 ^ 32 : Nat) : Int) ||| BitVec.ofInt IntKind.u64.bits (a : Int)).toNat = r * 2 ^ 32 + a := by
  show (BitVec.ofInt 64 ((r * 2 ^ 32 : Nat) : Int) ||| BitVec.ofInt 64 (a : Int)).toNat = _
  rw [BitVec.toNat_or, BitVec.ofInt_natCast, BitVec.ofInt_natCast, BitVec.toNat_ofNat, BitVec.toNat_ofNat, Nat.mod_eq_of_lt (by omega), Nat.mod_eq_of_lt (by omega), ← Nat.shiftLeft_eq, ← Nat.shiftLeft_add_eq_or_of_lt (by omega)]
 rw [e, u64w (by omega) (by omega)]
 omega
theorem wv_app0 : ∀ (l : List Int), wv (l ++ [0]) = wv l
 | [] => rfl
 | z :: l => by rw [List.cons_append, wv, wv_app0 l, wv]
theorem wv_lt : ∀ {l : List Int}, WD l → wv l < 4294967296 ^ l.length
 | [], _ => by simp [wv]
 | z :: l, h => by
  have := wv_lt (l := l) fun x hx => h x (List.mem_cons_of_mem _ hx)
  have := h z (List.mem_cons_self ..)
  rw [List.length_cons, Int.pow_succ]; unfold wv; omega
def NW (l : List Int) : Prop := WD l ∧ l.getLast? ≠ some 0
theorem NW.nil : NW [] := ⟨fun z h => (by cases h), by simp⟩
theorem NW.nil_iff {l : List Int} (h : NW l) : l = [] ↔ wv l = 0 := by
 constructor
 ·rintro rfl; rfl
 ·intro hv; rcases Classical.em (l = []) with h0 | h0
  ·exact h0
  ·have := wv_pos h.1 h0 h.2; omega
theorem NW.small {l : List Int} (h : NW l) (hv : wv l < 4294967296) : l = [] ∨ ∃ x, l = [x] ∧ x = wv l := by
 match l, h, hv with
 | [], _, _ => exact .inl rfl
 | [x], _, _ => exact .inr ⟨x, rfl, by unfold wv wv; omega⟩
 | x :: y :: t, h, hv =>
  have h1 := wv_pos (l := y :: t) (fun z hz => h.1 z (List.mem_cons_of_mem _ hz)) (by simp) (by have := h.2; rw [List.getLast?_cons_cons] at this; exact this)
  have := h.1 x (List.mem_cons_self ..)
  rw [wv] at hv; omega
theorem mTrim_ev {l : List Int} (hd : WD l) (hl : l.length ≤ lim) : Ev id (fun K => mag_Trim K l) fun r => NW r ∧ wv r = wv l ∧ r.length ≤ l.length := by
 unfold mag_Trim
 unfold lim at hl
 refine Ev.bind (P := fun r => NW r ∧ wv r = wv l ∧ r.length ≤ l.length) ?_ fun r hr => Ev.ret hr
 refine Ev.iter (fun s : List Int => WD s ∧ wv s = wv l ∧ s.length ≤ l.length) (fun s => s.length) ?_ ⟨hd, rfl, Nat.le_refl _⟩
 rintro s ⟨a0, a1, a2⟩ G hG
 by_cases h0 : s = []
 ·subst h0
  simp only [List.length_nil, ltF (show ((0 : Nat) : Int) ≤ 0 by omega), Bool.false_eq_true, if_false, Option.bind_some, outM_eq, Out.fin_out]
  exact Ev.ret ⟨NW.nil, a1, by simp⟩
 ·have hlen : 0 < s.length := List.length_pos_iff.2 h0
  have e : IntKind.wrap .i64 ((s.length : Int) - 1) = ((s.length - 1 : Nat) : Int) := by rw [w64 (by omega) (by omega)]; omega
  have hi : s.length - 1 < s.length := by omega
  simp only [ltT (show (0 : Int) < (s.length : Int) by omega), if_true, e, idx_get hi, Option.bind_some]
  have hlast : s.getLast? = some s[s.length - 1] := by rw [List.getLast?_eq_getElem?, List.getElem?_eq_getElem hi]
  by_cases hz : s[s.length - 1] = 0
  ·simp only [hz, beq_self_eq_true, if_true, Option.bind_some, Out.fin_go]
   refine Ev.op _ (cut_take (by omega)) ?_
   have e2 : s = s.take (s.length - 1) ++ [0] := by
    have e3 := List.take_append_drop (s.length - 1) s
    rw [List.drop_eq_getElem_cons hi, hz, show s.length - 1 + 1 = s.length by omega, List.drop_length] at e3
    exact e3.symm
   refine hG _ ⟨fun z hz => a0 z (List.mem_of_mem_take hz), ?_, by rw [List.length_take]; omega⟩ (by rw [List.length_take]; omega)
   rw [← a1]; conv => rhs; rw [e2]
   rw [wv_app0]
  ·simp only [show (s[s.length - 1] == 0) = false from beq_eq_false_iff_ne.2 hz, Bool.false_eq_true, if_false, Option.bind_some, outM_eq, Out.fin_out]
   exact Ev.ret ⟨⟨a0, by rw [hlast]; simpa using hz⟩, a1, a2⟩
theorem mFrom_ev {r : Int} (r0 : 0 ≤ r) (r1 : r < 4294967296) : Ev id (fun K => mag_From K r) fun l => NW l ∧ wv l = r := by
 unfold mag_From
 have e : IntKind.wrap .u32 (bShr .u64 r 32) = 0 := by
  unfold bShr
  show IntKind.wrap .u32 (r.fdiv (2 ^ 32)) = 0
  rw [Int.fdiv_eq_ediv_of_nonneg _ (by decide), show r / 2 ^ 32 = 0 by omega]; rfl
 refine Ev.op () rfl ?_
 simp only [e, u32w r0 r1]
 refine Ev.bind (mTrim_ev (l := [r, 0]) (fun z hz => ?_) (by unfold lim; simp)) fun l hl => Ev.ret ⟨hl.1, by rw [hl.2.1]; simp [wv]⟩
 rcases List.mem_cons.1 hz with rfl | h
 ·exact ⟨r0, r1⟩
 ·obtain rfl := List.mem_singleton.1 h; omega
theorem mSmall_eq {K : Nat} {l : List Int} (h : NW l) (hv : wv l < 4294967296) : ∃ b, mag_Small K l = some (wv l, b) := by
 unfold mag_Small
 rcases h.small hv with rfl | ⟨x, rfl, e⟩
 ·exact ⟨_, rfl⟩
 ·refine ⟨true, ?_⟩
  have hx := h.1 x (List.mem_cons_self ..)
  have e1 : wv [x] = x := by simp [wv]
  rw [e1]
  show some (IntKind.wrap .u64 x, true) = _
  rw [u64w hx.1 (by omega)]
theorem mak4 {n : Nat} (h : n ≤ lim) : makO 4 (n : Int) (0 : Int) = some (List.replicate n 0) := by
 unfold makO; rw [if_pos ⟨by omega, by unfold lim at h; simp only [Int.toNat_natCast]; omega⟩, Int.toNat_natCast]
theorem divWord_ev {l : List Int} {w : Int} (hd : WD l) (hl : l.length ≤ lim) (w0 : 0 < w) (w1 : w < 4294967296) :
  Ev id (fun K => mag_divWord K l w) fun q => NW q.1 ∧ 0 ≤ q.2 ∧ q.2 < w ∧ wv l = wv q.1 * w + q.2 ∧ q.1.length ≤ l.length := by
 unfold mag_divWord
 refine Ev.op _ (mak4 hl) ?_
 unfold lim at hl
 refine Ev.bind (P := fun q : Int × List Int => 0 ≤ q.1 ∧ q.1 < w ∧ WD q.2 ∧ q.2.length = l.length ∧ wv l = wv q.2 * w + q.1) ?_ ?_
 ·refine Ev.iter (fun s : Int × Int × List Int => ∃ i : Nat, s.2.1 = (i : Int) - 1 ∧ i ≤ l.length ∧ 0 ≤ s.1 ∧ s.1 < w ∧ WD s.2.2 ∧ s.2.2.length = l.length ∧ wv (l.drop i) = wv (s.2.2.drop i) * w + s.1) (fun s => (s.2.1 + 1).toNat) ?_
   ⟨l.length, by rw [w64 (by omega) (by omega)], Nat.le_refl _, Int.le_refl _, w0, fun z hz => by obtain ⟨_, rfl⟩ := List.mem_replicate.1 hz; omega, List.length_replicate, by
    rw [List.drop_length, List.drop_of_length_le (by rw [List.length_replicate]; omega)]; simp [wv]⟩
  rintro ⟨z, i', out⟩ ⟨i, e, hi, a0, a1, a2, a3, a4⟩ G hG
  dsimp only at e a0 a1 a2 a3 a4 hG ⊢
  subst e
  cases i with
  | zero =>
   simp only [leF (show (((0 : Nat) : Int) - 1) < 0 by omega), Bool.false_eq_true, if_false]
   rw [List.drop_zero, List.drop_zero] at a4
   exact Ev.ret ⟨a0, a1, a2, a3, a4⟩
  | succ i =>
   have hi' : i < l.length := by omega
   have hx := hd _ (List.getElem_mem hi')
   have e : (((i + 1 : Nat) : Int) - 1) = (i : Int) := by omega
   simp only [e] at hG ⊢
   have hm : must (IntKind.wrap .u64 w != 0) = some () := by rw [u64w (by omega) (by omega), bne_iff_ne.2 (by omega)]; rfl
   simp only [leT (show (0 : Int) ≤ (i : Int) by omega), if_true, idx_get hi', idx_get (show i < out.length by omega), Option.bind_some, show must (decide ((0 : Int) ≤ 32)) = some () from rfl, hm, shlOr a0 (by omega) hx.1 hx.2, w64 (show -9223372036854775808 ≤ (i : Int) - 1 by omega) (by omega), Int.toNat_natCast]
   rw [u64w (by omega) (by omega : w < 18446744073709551616)]
   generalize hy : 4294967296 * z + l[i] = y
   have y0 : 0 ≤ y := by omega
   rw [tmod_nn y0, tdiv_nn y0]
   have q0 : 0 ≤ y / w := Int.ediv_nonneg y0 (by omega)
   have q1 : y / w < 4294967296 := by
    apply Int.ediv_lt_of_lt_mul w0
    have : 4294967296 * (z + 1) ≤ 4294967296 * w := Int.mul_le_mul_of_nonneg_left (by omega) (by omega)
    omega
   have r0 := Int.emod_nonneg y (show w ≠ 0 by omega)
   have r1 := Int.emod_lt_of_pos y w0
   have hqr := Int.emod_add_mul_ediv y w
   rw [u64w q0 (by omega), u32w q0 q1]
   refine hG _ ⟨i, rfl, by omega, r0, r1, fun z hz => ?_, by rw [List.length_set]; exact a3, ?_⟩ (by dsimp only; omega)
   ·rcases List.mem_or_eq_of_mem_set hz with h | h
    ·exact a2 z h
    ·subst h; exact ⟨q0, q1⟩
   ·dsimp only
    rw [wv_drop hi', wv_drop (show i < (out.set i (y / w)).length by rw [List.length_set]; omega), List.getElem_set_self, List.drop_set_of_lt (by omega), a4]
    generalize wv (out.drop (i + 1)) = X
    rw [Int.add_mul, Int.mul_assoc]
    generalize X * w = Xw
    rw [Int.mul_comm w] at hqr
    omega
 ·rintro ⟨z, out⟩ ⟨a0, a1, a2, a3, a4⟩
  dsimp only at a0 a1 a2 a3 a4 ⊢
  refine Ev.bind (mTrim_ev a2 (by unfold lim; omega)) fun r hr => ?_
  rw [u32w a0 (by omega)]
  exact Ev.ret ⟨hr.1, a0, a1, by dsimp only; rw [hr.2.1]; exact a4, by dsimp only; omega⟩
theorem mCmp_one {K : Nat} (hK : 2 ≤ K) {l : List Int} {w : Int} (h0 : l ≠ []) (hl : l.length ≤ lim) : ∃ r, mag_Cmp K l [w] = some r ∧ (r < 0 ↔ ∃ x, l = [x] ∧ x < w) := by
 obtain ⟨k, rfl⟩ : ∃ k, K = k + 2 := ⟨K - 2, by omega⟩
 unfold mag_Cmp
 match l, h0 with
 | [x], _ =>
  by_cases h1 : x = w
  ·subst h1
   refine ⟨0, ?_, by simp⟩
   simp only [List.length_singleton, bne_self_eq_false, Bool.false_eq_true, if_false]
   have : IntKind.wrap .i64 (((1 : Nat) : Int) - 1) = ((0 : Nat) : Int) := by rw [w64 (by omega) (by omega)]; rfl
   rw [this, iter_succ]
   simp only [idx_nat, List.getElem?_cons_zero, Option.bind_some, bne_self_eq_false, Bool.false_eq_true, if_false]
   rfl
  ·by_cases h2 : x < w
   ·refine ⟨-1, ?_, by simp; exact h2⟩
    simp only [List.length_singleton, bne_self_eq_false, Bool.false_eq_true, if_false]
    have : IntKind.wrap .i64 (((1 : Nat) : Int) - 1) = ((0 : Nat) : Int) := by rw [w64 (by omega) (by omega)]; rfl
    rw [this, iter_succ]
    simp only [idx_nat, List.getElem?_cons_zero, Option.bind_some, bne_iff_ne.2 h1, if_true, ltT h2]
    rfl
   ·refine ⟨1, ?_, by simp; omega⟩
    simp only [List.length_singleton, bne_self_eq_false, Bool.false_eq_true, if_false]
    have : IntKind.wrap .i64 (((1 : Nat) : Int) - 1) = ((0 : Nat) : Int) := by rw [w64 (by omega) (by omega)]; rfl
    rw [this, iter_succ]
    simp only [idx_nat, List.getElem?_cons_zero, Option.bind_some, bne_iff_ne.2 h1, if_true, ltF (show w ≤ x by omega), Bool.false_eq_true, if_false]
    rfl
 | x :: y :: t, _ =>
  refine ⟨1, ?_, by simp⟩
  have e1 : (((x :: y :: t).length : Int) != (([w] : List Int).length : Int)) = true := by rw [bne_iff_ne]; simp only [List.length_cons, List.length_nil]; omega
  have e2 : decide (((x :: y :: t).length : Int) < (([w] : List Int).length : Int)) = false := by simp only [decide_eq_false_iff_not, List.length_cons, List.length_nil]; omega
  rw [e1, e2]; rfl
theorem DivMod_ev {l : List Int} (h : NW l) (h0 : l ≠ []) (hl : l.length ≤ lim) :
  Ev id (fun K => mag_DivMod K l [1000000000]) fun q => NW q.1 ∧ NW q.2 ∧ wv q.2 < 1000000000 ∧ wv l = wv q.1 * 1000000000 + wv q.2 ∧ q.1.length ≤ l.length := by
 have hw : ∀ {x : Int}, wv [x] = x := fun {x} => by simp [wv]
 unfold mag_DivMod
 by_cases hs : ∃ x, l = [x] ∧ x < 1000000000
 ·refine Ev.late 2 (r := ([], l)) (fun K hK => ?_) ?_
  ·obtain ⟨r, hr, hc⟩ := mCmp_one (K := K) hK (w := 1000000000) h0 hl
   rw [hr]
   simp only [Option.bind_some, ltT (hc.2 hs), if_true]
   rw [appO_fit (by unfold lim at hl; simp; omega)]
   rfl
  ·obtain ⟨x, rfl, hx⟩ := hs
   exact ⟨NW.nil, h, by rw [hw]; exact hx, by simp [wv], by simp⟩
 ·refine Ev.congr 2 (g := fun K => (mag_divWord K l 1000000000).bind fun r9 => (mag_From K (IntKind.wrap .u64 r9.2)).bind fun r11 => some (r9.1, r11)) (fun K hK => ?_) ?_
  ·obtain ⟨r, hr, hc⟩ := mCmp_one (K := K) hK (w := 1000000000) h0 hl
   rw [hr]
   simp only [Option.bind_some, ltF (show 0 ≤ r from Int.not_lt.1 fun h => hs (hc.1 h)), Bool.false_eq_true, if_false]
   rfl
  ·refine Ev.bind (divWord_ev h.1 hl (by omega) (by omega)) fun q hq => ?_
   rw [u64w hq.2.1 (by omega)]
   refine Ev.bind (mFrom_ev hq.2.1 (by omega)) fun r hr => Ev.ret ⟨hq.1, hr.1, by dsimp only; omega, by dsimp only; rw [hr.2]; exact hq.2.2.2.1, hq.2.2.2.2⟩
end Go.Proofs.YtemjeommnpocnaaGreat
namespace Go.Proofs.YtemjeommnpocnaaGreat
open Go Go.Iso Go.Proofs
set_option linter.unusedSimpArgs false
set_option linter.unusedVariables false
set_option maxRecDepth 100000
/-! ### The program's numeral -/
def pv : List Int → Int
 | [] => 0
 | x :: l => x + 1000000000 * pv l
def PD (l : List Int) : Prop := ∀ x ∈ l, 0 ≤ x ∧ x < 1000000000
def G9 (n : Nat) : Int := 1000000000 ^ n
theorem G9_succ {n : Nat} : G9 (n + 1) = 1000000000 * G9 n := by unfold G9; rw [Int.pow_succ, Int.mul_comm]
theorem G9_pos {n : Nat} : 0 < G9 n := Int.pow_pos (by omega)
theorem G9_le {n m : Nat} (h : n ≤ m) : G9 n ≤ G9 m := by
 induction m with
 | zero => obtain rfl : n = 0 := by omega
           exact Int.le_refl _
 | succ m ih =>
  by_cases e : n = m + 1
  ·rw [e]; exact Int.le_refl _
  ·have := ih (by omega); have := @G9_pos m; rw [G9_succ]; omega
theorem pv_app : ∀ (l : List Int) (x : Int), pv (l ++ [x]) = pv l + G9 l.length * x
 | [], x => by simp [pv, G9]
 | y :: l, x => by rw [List.cons_append, pv, pv_app l x, pv, List.length_cons, G9_succ, Int.mul_add, Int.mul_assoc, Int.add_assoc]
theorem pv_nn : ∀ {l : List Int}, PD l → 0 ≤ pv l
 | [], _ => Int.le_refl _
 | z :: l, h => by
  have := pv_nn (l := l) fun x hx => h x (List.mem_cons_of_mem _ hx)
  have := h z (List.mem_cons_self ..)
  unfold pv; omega
theorem pv_drop {l : List Int} {i : Nat} (h : i < l.length) : pv (l.drop i) = l[i] + 1000000000 * pv (l.drop (i + 1)) := by
 rw [List.drop_eq_getElem_cons h]; rfl
theorem wv_le {n m : Nat} (h : n ≤ m) : (4294967296 : Int) ^ n ≤ 4294967296 ^ m := by
 induction m with
 | zero => obtain rfl : n = 0 := by omega
           exact Int.le_refl _
 | succ m ih =>
  by_cases e : n = m + 1
  ·rw [e]; exact Int.le_refl _
  ·have := ih (by omega); have : (0 : Int) < 4294967296 ^ m := Int.pow_pos (by omega); rw [Int.pow_succ]; omega
theorem parts_few {l : List Int} (h : WD l) (hl : l.length ≤ 20) {n : Nat} (hg : G9 n ≤ wv l) : n < 100 := by
 rcases Nat.lt_or_ge n 100 with h1 | h1
 ·exact h1
 ·have a := G9_le h1
  have b := wv_lt h
  have c := wv_le hl
  have d : (4294967296 : Int) ^ 20 ≤ G9 100 := by unfold G9; decide +kernel
  omega
theorem least {p : Nat → Prop} [DecidablePred p] : ∀ n, p n → ∃ m, m ≤ n ∧ p m ∧ ∀ j, j < m → ¬ p j := by
 intro n
 induction n using Nat.strongRecOn with
 | _ n ih =>
  intro hp
  by_cases h : ∃ j, j < n ∧ p j
  ·obtain ⟨j, hj, hpj⟩ := h
   obtain ⟨m, hm, h1, h2⟩ := ih j hj hpj
   exact ⟨m, by omega, h1, h2⟩
  ·exact ⟨n, Nat.le_refl _, hp, fun j hj hpj => h ⟨j, hj, hpj⟩⟩
theorem digits0 {K : Nat} (hK : 20 ≤ K) {v : Nat} (hv : v < 1000000000) : nat_digits K (v : Int) 0 = some (digL v) ∧ (digL v).length ≤ 9 := by
 obtain ⟨m, hm, h1, h2⟩ := least (p := fun m => v / 10 ^ m = 0) 9 (Nat.div_eq_of_lt (by simpa using hv))
 have h3 : ∀ j, j < m → 0 < v / 10 ^ j := fun j hj => Nat.pos_of_ne_zero (h2 j hj)
 have e := digits_eq hK (v := v) (m := m) (least := 0) hm (by omega) (fun j hj => .inl (h3 j hj)) h1 (by omega)
 rw [pd_digL m v h1 h3] at e
 exact ⟨e, digL_lt (by simpa using hv)⟩
theorem digits9 {K : Nat} (hK : 20 ≤ K) {v : Nat} (hv : v < 1000000000) : nat_digits K (v : Int) 9 = some (pd 9 v) :=
 digits_eq hK (v := v) (m := 9) (least := 9) (Nat.le_refl _) (by omega) (fun j hj => .inr (by omega)) (Nat.div_eq_of_lt (by simpa using hv)) (by omega)
theorem app_8 {l : List Int} {d : Int} (h : l.length ≤ 1000) : appO 8 l [d] = some (l ++ [d]) := appO_fit (by simp only [List.length_singleton]; omega)
theorem parts_ev {p : List Int} (h : NW p) (h0 : p ≠ []) (hl : p.length ≤ 20) :
  Ev id (fun K => iter (S := (List Int) × (List Int)) (R := (List Int)) K (fun again (q : List Int × List Int) =>
    if (decide ((0 : Int) < (q.1.length : Int))) then
     (mag_DivMod K q.1 [1000000000]).bind fun r12 =>
     (mag_Small K r12.2).bind fun r14 =>
     (appO 8 q.2 [r14.1]).bind fun l16 =>
     again (r12.1, l16)
    else
     some q.2) (p, [])) fun r => PD r ∧ r ≠ [] ∧ r.getLast? ≠ some 0 ∧ pv r = wv p ∧ r.length ≤ 100 := by
 refine Ev.iter (fun s : List Int × List Int => NW s.1 ∧ s.1.length ≤ 20 ∧ PD s.2 ∧ pv s.2 + G9 s.2.length * wv s.1 = wv p ∧ (s.1 = [] → s.2 ≠ [] ∧ s.2.getLast? ≠ some 0) ∧ s.2.length ≤ 100) (fun s => (wv s.1).toNat) ?_
  ⟨h, hl, fun x hx => (by cases hx), by simp [pv, G9], fun e => absurd e h0, by simp⟩
 rintro ⟨a, parts⟩ ⟨a0, a1, a2, a3, a4, a5⟩ G hG
 dsimp only at a0 a1 a2 a3 a4 a5 hG ⊢
 by_cases ha : a = []
 ·subst ha
  simp only [List.length_nil, ltF (show ((0 : Nat) : Int) ≤ 0 by omega), Bool.false_eq_true, if_false]
  have : wv [] = 0 := rfl
  rw [this, Int.mul_zero, Int.add_zero] at a3
  exact Ev.ret ⟨a2, (a4 rfl).1, (a4 rfl).2, a3, a5⟩
 ·have hlen : 0 < a.length := List.length_pos_iff.2 ha
  have hpos := wv_pos a0.1 ha a0.2
  have hpn := pv_nn a2
  have hfew : parts.length < 100 := parts_few h.1 hl (by
   have h1 : G9 parts.length * 1 ≤ G9 parts.length * wv a := Int.mul_le_mul_of_nonneg_left (by omega) (Int.le_of_lt G9_pos)
   omega)
  simp only [ltT (show (0 : Int) < (a.length : Int) by omega), if_true]
  refine Ev.bind (DivMod_ev a0 ha (by unfold lim; omega)) fun q hq => ?_
  obtain ⟨b0, b1, b2, b3, b4⟩ := hq
  have r0 := wv_nn b1.1
  have q0 := wv_nn b0.1
  refine Ev.bind (P := fun r : Int × Bool => r.1 = wv q.2) ?_ fun r hr => ?_
  ·obtain ⟨bb, hb⟩ := mSmall_eq (K := 0) b1 (by omega)
   refine Ev.late 0 (r := (wv q.2, bb)) (fun K _ => ?_) rfl
   have := mSmall_eq (K := K) b1 (by omega)
   exact hb
  ·rw [hr, app_8 (by omega)]
   refine hG _ ⟨b0, by dsimp only; omega, fun x hx => ?_, ?_, fun e => ?_, by simp; omega⟩ ?_
   ·rcases List.mem_append.1 hx with hx | hx
    ·exact a2 x hx
    ·obtain rfl := List.mem_singleton.1 hx; exact ⟨r0, b2⟩
   ·dsimp only
    rw [pv_app, List.length_append, List.length_singleton, G9_succ, ← a3, b3, Int.mul_add, Int.mul_assoc, Int.mul_comm (wv q.1), Int.mul_left_comm 1000000000]
    rw [Int.mul_left_comm (G9 parts.length) 1000000000]
    omega
   ·dsimp only at e ⊢
    refine ⟨by simp, ?_⟩
    rw [List.getLast?_concat]
    have : wv q.1 = 0 := by rw [e]; rfl
    intro hc
    have := Option.some.inj hc
    omega
   ·dsimp only; omega
theorem nat_Text_ev {p : List Int} (h : NW p) (hl : p.length ≤ 20) : Ev id (fun K => nat_Text K p) fun r => r.1 = if p = [] then ⟨#[48]⟩ else strOfNums (digL (wv p).toNat) := by
 unfold nat_Text
 have hvl : ∀ K, nat_Valid K p = some true := fun K => by
  unfold nat_Valid
  rw [if_pos (by rw [decide_eq_true_eq]; omega)]
  by_cases h0 : p.length = 0
  ·rw [if_pos (int_eq0 h0)]
  ·rw [if_neg (by rw [int_ne0 h0]; simp), last_idx h0 (by omega)]
   obtain ⟨x, hx⟩ : ∃ x, p.getLast? = some x := ⟨_, List.getLast?_eq_some_getLast fun e => h0 (by rw [e]; rfl)⟩
   have h2 := h.2
   rw [hx] at h2 ⊢
   simp only [Option.bind_some, bne_iff_ne.2 (show x ≠ 0 from fun e => h2 (by rw [e]))]
 refine Ev.bind (P := fun b => b = true) (Ev.late 0 (fun K _ => hvl K) rfl) ?_
 rintro _ rfl
 simp only [Bool.not_true, Bool.false_eq_true, if_false]
 by_cases h0 : p = []
 ·subst h0
  exact Ev.ret rfl
 ·have hlen : p.length ≠ 0 := fun e => h0 (List.length_eq_zero_iff.1 e)
  rw [if_neg h0]
  simp only [int_ne0 hlen, Bool.false_eq_true, if_false]
  refine Ev.bind (mFrom_ev (r := 1000000000) (by omega) (by omega)) fun b hb => ?_
  obtain rfl : b = [1000000000] := by
   rcases hb.1.small (by rw [hb.2]; omega) with rfl | ⟨x, rfl, e⟩
   ·have := hb.2; cases this
   ·rw [e, hb.2]
  refine Ev.bind (parts_ev h h0 hl) fun ps hps => ?_
  obtain ⟨p0, p1, p2, p3, p4⟩ := hps
  have hpl : 0 < ps.length := List.length_pos_iff.2 p1
  have hlast : ps.getLast? = some ps[ps.length - 1] := by rw [List.getLast?_eq_getElem?, List.getElem?_eq_getElem (by omega)]
  refine Ev.op ps[ps.length - 1] (by rw [last_idx (by omega) (by omega), hlast]) ?_
  have hx := p0 _ (List.getElem_mem (show ps.length - 1 < ps.length by omega))
  have hx0 : ps[ps.length - 1] ≠ 0 := fun e => p2 (by rw [hlast, e])
  refine Ev.bind (P := fun r => r = digL (ps[ps.length - 1]).toNat ∧ r.length ≤ 9) ?_ fun out hout => ?_
  ·have := digits0 (K := 20) (Nat.le_refl _) (v := (ps[ps.length - 1]).toNat) (by omega)
   refine Ev.late 20 (r := digL (ps[ps.length - 1]).toNat) (fun K hK => ?_) ⟨rfl, this.2⟩
   have h2 := (digits0 (K := K) hK (v := (ps[ps.length - 1]).toNat) (by omega)).1
   rwa [Int.toNat_of_nonneg hx.1] at h2
  ·refine Ev.bind (P := fun r => r = digL (wv p).toNat) ?_ fun r hr => Ev.ret (by rw [hr])
   refine Ev.iter (fun s : Int × List Int => ∃ j : Nat, s.1 = (j : Int) - 1 ∧ j ≤ ps.length - 1 ∧ s.2 = digL (pv (ps.drop j)).toNat ∧ 0 < pv (ps.drop j) ∧ s.2.length ≤ 9 * (ps.length - j)) (fun s => (s.1 + 1).toNat) ?_ ?_
   ·rintro ⟨i, l⟩ ⟨j, rfl, hj, a0, a1, a2⟩ G hG
    dsimp only at a0 a1 a2 hG ⊢
    cases j with
    | zero =>
     simp only [leF (show (((0 : Nat) : Int) - 1) < 0 by omega), Bool.false_eq_true, if_false]
     rw [List.drop_zero, p3] at a0
     exact Ev.ret a0
    | succ j =>
     have hj' : j < ps.length := by omega
     have hz := p0 _ (List.getElem_mem hj')
     have e : (((j + 1 : Nat) : Int) - 1) = (j : Int) := by omega
     simp only [e] at hG ⊢
     have hmk : makO 1 (9 : Int) (0 : Int) = some (List.replicate 9 0) := rfl
     simp only [leT (show (0 : Int) ≤ (j : Int) by omega), if_true, hmk, idx_get hj', Option.bind_some, w64 (show -9223372036854775808 ≤ (j : Int) - 1 by omega) (by omega)]
     refine Ev.bind (P := fun r => r = pd 9 (ps[j]).toNat) ?_ fun r hr => ?_
     ·refine Ev.late 20 (r := pd 9 (ps[j]).toNat) (fun K hK => ?_) rfl
      have h2 := digits9 (K := K) hK (v := (ps[j]).toNat) (by omega)
      rwa [Int.toNat_of_nonneg hz.1] at h2
     ·have hrl : r.length = 9 := by rw [hr, pd_len]
      have hcp : copyO (List.replicate 9 (0 : Int)) r = some r := by
       unfold copyO
       rw [if_pos (by rw [hrl]; simp), List.drop_of_length_le (by rw [hrl]; simp), List.append_nil]
      have hmu : must (!r.isEmpty) = some () := by
       cases r with
       | nil => cases hrl
       | cons => rfl
      simp only [hcp, hmu, Option.bind_some, appO_fit (show (2 * (l.length + r.length) + 1000) * 1 ≤ 2 ^ 48 by omega)]
      have hd := pv_drop hj'
      refine hG _ ⟨j, rfl, by omega, ?_, by omega, by simp only [List.length_append]; omega⟩ (by dsimp only; omega)
      dsimp only
      rw [hr, a0, hd]
      have h3 := digL_pd 9 (pv (ps.drop (j + 1))).toNat (ps[j]).toNat (by omega) (by omega)
      rw [← h3]
      congr 1; omega
   ·refine ⟨ps.length - 1, by rw [w64 (by omega) (by omega)]; omega, Nat.le_refl _, ?_, ?_, ?_⟩
    ·dsimp only
     rw [hout.1, pv_drop (by omega), show ps.length - 1 + 1 = ps.length by omega, List.drop_length]
     show _ = digL (ps[ps.length - 1] + 1000000000 * 0).toNat
     rw [Int.mul_zero, Int.add_zero]
    ·rw [pv_drop (by omega), show ps.length - 1 + 1 = ps.length by omega, List.drop_length]
     show 0 < ps[ps.length - 1] + 1000000000 * 0
     omega
    ·dsimp only; omega
end Go.Proofs.YtemjeommnpocnaaGreat
namespace Go.Proofs.YtemjeommnpocnaaGreat
open Go Go.Iso Go.Proofs
set_option linter.unusedSimpArgs false
set_option linter.unusedVariables false
set_option maxRecDepth 100000
/-! ### What the printer's small functions come to -/
theorem catO_ok {a b : ByteArray} (h : a.size + b.size ≤ 4611686018427387904) : catO a b = some (a ++ b) := by
 unfold catO
 rw [if_pos]
 show ((a.size + b.size : Nat) : Int) ≤ 9223372036854775807
 omega
theorem bytesL_app {a b : ByteArray} : bytesL (a ++ b) = bytesL a ++ bytesL b := by
 unfold bytesL
 rw [ByteArray.data_append, Array.toList_append, List.map_append]
theorem bytesL_len {a : ByteArray} : (bytesL a).length = a.size := by
 unfold bytesL
 rw [List.length_map, Array.length_toList]; rfl
theorem empT : (!((⟨#[]⟩ : ByteArray).toList == (⟨#[]⟩ : ByteArray).toList)) = false := by kernel_rfl
theorem idx_z {α : Type} {a : α} {l : List α} : idx (a :: l) (0 : Int) = some a := rfl
theorem idx_o {α : Type} {a b : α} {l : List α} : idx (a :: b :: l) (1 : Int) = some b := rfl
theorem kid_z : (((0 : Nat) : Int) == (0 : Int)) = true := rfl
theorem kid_o : (((1 : Nat) : Int) == (0 : Int)) = false := rfl
theorem appOf {l r : List Int} (h : l.length + r.length ≤ 1099511627776) : appO 1 l r = some (l ++ r) := by
 unfold appO; rw [if_pos (by omega)]
theorem must_put {x : Option (List Int)} {a : ByteArray} (h : x.isSome = true ∨ 0 < a.size) : must (x.isSome || !(bytesL a).isEmpty) = some () := by
 have : (x.isSome || !(bytesL a).isEmpty) = true := by
  rw [Bool.or_eq_true]
  rcases h with h | h
  ·exact .inl h
  ·right
   rw [Bool.not_eq_true', ← Bool.not_eq_true, List.isEmpty_iff]
   intro e
   have := bytesL_len (a := a)
   rw [e] at this; simp at this; omega
 rw [this]; rfl
theorem put1 {K : Nat} (hK : 5 ≤ K) {x : Option (List Int)} {a : ByteArray} (h : x.isSome = true ∨ 0 < a.size) (hl : (x.getD []).length + a.size ≤ 1099511627776) :
  text_printer_put K ⟨x⟩ [a] = some ⟨some (x.getD [] ++ bytesL a)⟩ := by
 obtain ⟨k, rfl⟩ : ∃ k, K = k + 5 := ⟨K - 5, by omega⟩
 unfold text_printer_put
 refine ob (some (x.getD [] ++ bytesL a)) ?_ rfl
 rw [iter_succ]
 dsimp only
 rw [if_pos (by rfl)]
 refine ob a idx_z ?_
 refine ob () (must_put h) ?_
 refine ob _ (appOf (by rw [bytesL_len]; exact hl)) ?_
 rw [iter_succ]
 rfl
theorem put2 {K : Nat} (hK : 5 ≤ K) {x : Option (List Int)} {a b : ByteArray} (h : x.isSome = true ∨ 0 < a.size) (hl : (x.getD []).length + a.size + b.size ≤ 1099511627776) :
  text_printer_put K ⟨x⟩ [a, b] = some ⟨some (x.getD [] ++ bytesL a ++ bytesL b)⟩ := by
 obtain ⟨k, rfl⟩ : ∃ k, K = k + 5 := ⟨K - 5, by omega⟩
 unfold text_printer_put
 refine ob (some (x.getD [] ++ bytesL a ++ bytesL b)) ?_ rfl
 rw [iter_succ]
 dsimp only
 rw [if_pos (by rfl)]
 refine ob a idx_z ?_
 refine ob () (must_put h) ?_
 refine ob _ (appOf (by rw [bytesL_len]; omega)) ?_
 rw [iter_succ]
 dsimp only
 rw [if_pos (by rfl)]
 refine ob b idx_o ?_
 refine ob () (must_put (.inl rfl)) ?_
 refine ob _ (appOf (by rw [Option.getD_some, List.length_append, bytesL_len, bytesL_len]; exact hl)) ?_
 rw [iter_succ]
 rfl
section
variable {K k : Nat} {p : Text_printerA} {n : NodeA}
theorem g_tree : (grp_text_printer_tree K (k + 1)).1 (p, n) = text_printer_tree_body K (grp_text_printer_tree K k).1 (grp_text_printer_tree K k).2.1 (grp_text_printer_tree K k).2.2.1 (grp_text_printer_tree K k).2.2.2.1 (grp_text_printer_tree K k).2.2.2.2.1 (grp_text_printer_tree K k).2.2.2.2.2.1 (grp_text_printer_tree K k).2.2.2.2.2.2 p n := rfl
theorem g_term : (grp_text_printer_tree K (k + 1)).2.1 (p, n) = text_printer_term_body K (grp_text_printer_tree K k).1 (grp_text_printer_tree K k).2.1 (grp_text_printer_tree K k).2.2.1 (grp_text_printer_tree K k).2.2.2.1 (grp_text_printer_tree K k).2.2.2.2.1 (grp_text_printer_tree K k).2.2.2.2.2.1 (grp_text_printer_tree K k).2.2.2.2.2.2 p n := rfl
theorem g_formula : (grp_text_printer_tree K (k + 1)).2.2.1 (p, n) = text_printer_formula_body K (grp_text_printer_tree K k).1 (grp_text_printer_tree K k).2.1 (grp_text_printer_tree K k).2.2.1 (grp_text_printer_tree K k).2.2.2.1 (grp_text_printer_tree K k).2.2.2.2.1 (grp_text_printer_tree K k).2.2.2.2.2.1 (grp_text_printer_tree K k).2.2.2.2.2.2 p n := rfl
theorem g_program : (grp_text_printer_tree K (k + 1)).2.2.2.1 (p, n) = text_printer_program_body K (grp_text_printer_tree K k).1 (grp_text_printer_tree K k).2.1 (grp_text_printer_tree K k).2.2.1 (grp_text_printer_tree K k).2.2.2.1 (grp_text_printer_tree K k).2.2.2.2.1 (grp_text_printer_tree K k).2.2.2.2.2.1 (grp_text_printer_tree K k).2.2.2.2.2.2 p n := rfl
theorem g_around {b c : ByteArray} : (grp_text_printer_tree K (k + 1)).2.2.2.2.1 (p, b, n, c) = text_printer_around_body K (grp_text_printer_tree K k).1 (grp_text_printer_tree K k).2.1 (grp_text_printer_tree K k).2.2.1 (grp_text_printer_tree K k).2.2.2.1 (grp_text_printer_tree K k).2.2.2.2.1 (grp_text_printer_tree K k).2.2.2.2.2.1 (grp_text_printer_tree K k).2.2.2.2.2.2 p b n c := rfl
theorem g_symbol : (grp_text_printer_tree K (k + 1)).2.2.2.2.2.1 (p, n) = text_printer_symbol_body K (grp_text_printer_tree K k).1 (grp_text_printer_tree K k).2.1 (grp_text_printer_tree K k).2.2.1 (grp_text_printer_tree K k).2.2.2.1 (grp_text_printer_tree K k).2.2.2.2.1 (grp_text_printer_tree K k).2.2.2.2.2.1 (grp_text_printer_tree K k).2.2.2.2.2.2 p n := rfl
theorem g_flow : (grp_text_printer_tree K (k + 1)).2.2.2.2.2.2 (p, n) = text_printer_flow_body K (grp_text_printer_tree K k).1 (grp_text_printer_tree K k).2.1 (grp_text_printer_tree K k).2.2.1 (grp_text_printer_tree K k).2.2.2.1 (grp_text_printer_tree K k).2.2.2.2.1 (grp_text_printer_tree K k).2.2.2.2.2.1 (grp_text_printer_tree K k).2.2.2.2.2.2 p n := rfl
end
def TP (K j : Nat) (n : NodeA) (s : ByteArray) (w : Nat) : Prop :=
 ∀ i, j ≤ i → ∀ x : Option (List Int), (x.getD []).length + w ≤ 1099511627776 → (grp_text_printer_tree K i).1 (⟨x⟩, n) = some ⟨some (x.getD [] ++ bytesL s)⟩
theorem ar_ok {K j i w : Nat} {n : NodeA} {s b c : ByteArray} {x : Option (List Int)} (hK : 5 ≤ K) (h : TP K j n s w) (hs : s.size ≤ w) (hi : j ≤ i) (hb : x.isSome = true ∨ 0 < b.size) (hx : (x.getD []).length + b.size + w + c.size ≤ 1099511627776) :
  (grp_text_printer_tree K (i + 1)).2.2.2.2.1 (⟨x⟩, b, n, c) = some ⟨some (x.getD [] ++ bytesL b ++ bytesL s ++ bytesL c)⟩ := by
 rw [g_around]; unfold text_printer_around_body
 refine ob _ (put1 hK hb (by omega)) ?_
 refine ob _ (h i hi _ (by rw [Option.getD_some, List.length_append, bytesL_len]; omega)) ?_
 refine ob _ (put1 hK (.inl rfl) (by simp only [Option.getD_some, List.length_append, bytesL_len]; omega)) ?_
 rfl
end Go.Proofs.YtemjeommnpocnaaGreat
namespace Go.Proofs.YtemjeommnpocnaaGreat
open Go Go.Iso Go.Proofs
set_option linter.unusedSimpArgs false
set_option linter.unusedVariables false
set_option maxRecDepth 100000
theorem zl0 : (⟨#[]⟩ : ByteArray).size = 0 := rfl
theorem bl0 : bytesL ⟨#[]⟩ = [] := rfl
theorem zl1 : (⟨#[32]⟩ : ByteArray).size = 1 := rfl
theorem bl1 : bytesL ⟨#[32]⟩ = [32] := rfl
theorem zl2 : (⟨#[32, 33, 61, 32]⟩ : ByteArray).size = 4 := rfl
theorem bl2 : bytesL ⟨#[32, 33, 61, 32]⟩ = [32, 33, 61, 32] := rfl
theorem zl3 : (⟨#[32, 38, 32]⟩ : ByteArray).size = 3 := rfl
theorem bl3 : bytesL ⟨#[32, 38, 32]⟩ = [32, 38, 32] := rfl
theorem zl4 : (⟨#[32, 42, 32]⟩ : ByteArray).size = 3 := rfl
theorem bl4 : bytesL ⟨#[32, 42, 32]⟩ = [32, 42, 32] := rfl
theorem zl5 : (⟨#[32, 43, 32]⟩ : ByteArray).size = 3 := rfl
theorem bl5 : bytesL ⟨#[32, 43, 32]⟩ = [32, 43, 32] := rfl
theorem zl6 : (⟨#[32, 43, 43, 32]⟩ : ByteArray).size = 4 := rfl
theorem bl6 : bytesL ⟨#[32, 43, 43, 32]⟩ = [32, 43, 43, 32] := rfl
theorem zl7 : (⟨#[32, 45, 32]⟩ : ByteArray).size = 3 := rfl
theorem bl7 : bytesL ⟨#[32, 45, 32]⟩ = [32, 45, 32] := rfl
theorem zl8 : (⟨#[32, 45, 62, 32]⟩ : ByteArray).size = 4 := rfl
theorem bl8 : bytesL ⟨#[32, 45, 62, 32]⟩ = [32, 45, 62, 32] := rfl
theorem zl9 : (⟨#[32, 47, 32]⟩ : ByteArray).size = 3 := rfl
theorem bl9 : bytesL ⟨#[32, 47, 32]⟩ = [32, 47, 32] := rfl
theorem zl10 : (⟨#[32, 58, 61, 32]⟩ : ByteArray).size = 4 := rfl
theorem bl10 : bytesL ⟨#[32, 58, 61, 32]⟩ = [32, 58, 61, 32] := rfl
theorem zl11 : (⟨#[32, 58, 61, 32, 42]⟩ : ByteArray).size = 5 := rfl
theorem bl11 : bytesL ⟨#[32, 58, 61, 32, 42]⟩ = [32, 58, 61, 32, 42] := rfl
theorem zl12 : (⟨#[32, 59, 32]⟩ : ByteArray).size = 3 := rfl
theorem bl12 : bytesL ⟨#[32, 59, 32]⟩ = [32, 59, 32] := rfl
theorem zl13 : (⟨#[32, 60, 32]⟩ : ByteArray).size = 3 := rfl
theorem bl13 : bytesL ⟨#[32, 60, 32]⟩ = [32, 60, 32] := rfl
theorem zl14 : (⟨#[32, 60, 45, 62, 32]⟩ : ByteArray).size = 5 := rfl
theorem bl14 : bytesL ⟨#[32, 60, 45, 62, 32]⟩ = [32, 60, 45, 62, 32] := rfl
theorem zl15 : (⟨#[32, 60, 61, 32]⟩ : ByteArray).size = 4 := rfl
theorem bl15 : bytesL ⟨#[32, 60, 61, 32]⟩ = [32, 60, 61, 32] := rfl
theorem zl16 : (⟨#[32, 61, 32]⟩ : ByteArray).size = 3 := rfl
theorem bl16 : bytesL ⟨#[32, 61, 32]⟩ = [32, 61, 32] := rfl
theorem zl17 : (⟨#[32, 62, 32]⟩ : ByteArray).size = 3 := rfl
theorem bl17 : bytesL ⟨#[32, 62, 32]⟩ = [32, 62, 32] := rfl
theorem zl18 : (⟨#[32, 62, 61, 32]⟩ : ByteArray).size = 4 := rfl
theorem bl18 : bytesL ⟨#[32, 62, 61, 32]⟩ = [32, 62, 61, 32] := rfl
theorem zl19 : (⟨#[32, 94, 32]⟩ : ByteArray).size = 3 := rfl
theorem bl19 : bytesL ⟨#[32, 94, 32]⟩ = [32, 94, 32] := rfl
theorem zl20 : (⟨#[32, 124, 32]⟩ : ByteArray).size = 3 := rfl
theorem bl20 : bytesL ⟨#[32, 124, 32]⟩ = [32, 124, 32] := rfl
theorem zl21 : (⟨#[33]⟩ : ByteArray).size = 1 := rfl
theorem bl21 : bytesL ⟨#[33]⟩ = [33] := rfl
theorem zl22 : (⟨#[33, 61]⟩ : ByteArray).size = 2 := rfl
theorem bl22 : bytesL ⟨#[33, 61]⟩ = [33, 61] := rfl
theorem zl23 : (⟨#[38]⟩ : ByteArray).size = 1 := rfl
theorem bl23 : bytesL ⟨#[38]⟩ = [38] := rfl
theorem zl24 : (⟨#[39]⟩ : ByteArray).size = 1 := rfl
theorem bl24 : bytesL ⟨#[39]⟩ = [39] := rfl
theorem zl25 : (⟨#[39, 32, 58, 61, 32]⟩ : ByteArray).size = 5 := rfl
theorem bl25 : bytesL ⟨#[39, 32, 58, 61, 32]⟩ = [39, 32, 58, 61, 32] := rfl
theorem zl26 : (⟨#[39, 32, 61, 32]⟩ : ByteArray).size = 4 := rfl
theorem bl26 : bytesL ⟨#[39, 32, 61, 32]⟩ = [39, 32, 61, 32] := rfl
theorem zl27 : (⟨#[40]⟩ : ByteArray).size = 1 := rfl
theorem bl27 : bytesL ⟨#[40]⟩ = [40] := rfl
theorem zl28 : (⟨#[40, 41]⟩ : ByteArray).size = 2 := rfl
theorem bl28 : bytesL ⟨#[40, 41]⟩ = [40, 41] := rfl
theorem zl29 : (⟨#[40, 45]⟩ : ByteArray).size = 2 := rfl
theorem bl29 : bytesL ⟨#[40, 45]⟩ = [40, 45] := rfl
theorem zl30 : (⟨#[41]⟩ : ByteArray).size = 1 := rfl
theorem bl30 : bytesL ⟨#[41]⟩ = [41] := rfl
theorem zl31 : (⟨#[41, 39]⟩ : ByteArray).size = 2 := rfl
theorem bl31 : bytesL ⟨#[41, 39]⟩ = [41, 39] := rfl
theorem zl32 : (⟨#[42]⟩ : ByteArray).size = 1 := rfl
theorem bl32 : bytesL ⟨#[42]⟩ = [42] := rfl
theorem zl33 : (⟨#[43]⟩ : ByteArray).size = 1 := rfl
theorem bl33 : bytesL ⟨#[43]⟩ = [43] := rfl
theorem zl34 : (⟨#[45]⟩ : ByteArray).size = 1 := rfl
theorem bl34 : bytesL ⟨#[45]⟩ = [45] := rfl
theorem zl35 : (⟨#[45, 62]⟩ : ByteArray).size = 2 := rfl
theorem bl35 : bytesL ⟨#[45, 62]⟩ = [45, 62] := rfl
theorem zl36 : (⟨#[46, 32]⟩ : ByteArray).size = 2 := rfl
theorem bl36 : bytesL ⟨#[46, 32]⟩ = [46, 32] := rfl
theorem zl37 : (⟨#[46, 46]⟩ : ByteArray).size = 2 := rfl
theorem bl37 : bytesL ⟨#[46, 46]⟩ = [46, 46] := rfl
theorem zl38 : (⟨#[47]⟩ : ByteArray).size = 1 := rfl
theorem bl38 : bytesL ⟨#[47]⟩ = [47] := rfl
theorem zl39 : (⟨#[60]⟩ : ByteArray).size = 1 := rfl
theorem bl39 : bytesL ⟨#[60]⟩ = [60] := rfl
theorem zl40 : (⟨#[60, 45, 62]⟩ : ByteArray).size = 3 := rfl
theorem bl40 : bytesL ⟨#[60, 45, 62]⟩ = [60, 45, 62] := rfl
theorem zl41 : (⟨#[60, 61]⟩ : ByteArray).size = 2 := rfl
theorem bl41 : bytesL ⟨#[60, 61]⟩ = [60, 61] := rfl
theorem zl42 : (⟨#[60, 124]⟩ : ByteArray).size = 2 := rfl
theorem bl42 : bytesL ⟨#[60, 124]⟩ = [60, 124] := rfl
theorem zl43 : (⟨#[61]⟩ : ByteArray).size = 1 := rfl
theorem bl43 : bytesL ⟨#[61]⟩ = [61] := rfl
theorem zl44 : (⟨#[62]⟩ : ByteArray).size = 1 := rfl
theorem bl44 : bytesL ⟨#[62]⟩ = [62] := rfl
theorem zl45 : (⟨#[62, 61]⟩ : ByteArray).size = 2 := rfl
theorem bl45 : bytesL ⟨#[62, 61]⟩ = [62, 61] := rfl
theorem zl46 : (⟨#[63]⟩ : ByteArray).size = 1 := rfl
theorem bl46 : bytesL ⟨#[63]⟩ = [63] := rfl
theorem zl47 : (⟨#[64, 40]⟩ : ByteArray).size = 2 := rfl
theorem bl47 : bytesL ⟨#[64, 40]⟩ = [64, 40] := rfl
theorem zl48 : (⟨#[91]⟩ : ByteArray).size = 1 := rfl
theorem bl48 : bytesL ⟨#[91]⟩ = [91] := rfl
theorem zl49 : (⟨#[93]⟩ : ByteArray).size = 1 := rfl
theorem bl49 : bytesL ⟨#[93]⟩ = [93] := rfl
theorem zl50 : (⟨#[94]⟩ : ByteArray).size = 1 := rfl
theorem bl50 : bytesL ⟨#[94]⟩ = [94] := rfl
theorem zl51 : (⟨#[95]⟩ : ByteArray).size = 1 := rfl
theorem bl51 : bytesL ⟨#[95]⟩ = [95] := rfl
theorem zl52 : (⟨#[101, 120, 105, 115, 116, 115, 32]⟩ : ByteArray).size = 7 := rfl
theorem bl52 : bytesL ⟨#[101, 120, 105, 115, 116, 115, 32]⟩ = [101, 120, 105, 115, 116, 115, 32] := rfl
theorem zl53 : (⟨#[102, 97, 108, 115, 101]⟩ : ByteArray).size = 5 := rfl
theorem bl53 : bytesL ⟨#[102, 97, 108, 115, 101]⟩ = [102, 97, 108, 115, 101] := rfl
theorem zl54 : (⟨#[102, 111, 114, 97, 108, 108, 32]⟩ : ByteArray).size = 7 := rfl
theorem bl54 : bytesL ⟨#[102, 111, 114, 97, 108, 108, 32]⟩ = [102, 111, 114, 97, 108, 108, 32] := rfl
theorem zl55 : (⟨#[116, 114, 117, 101]⟩ : ByteArray).size = 4 := rfl
theorem bl55 : bytesL ⟨#[116, 114, 117, 101]⟩ = [116, 114, 117, 101] := rfl
theorem zl56 : (⟨#[123]⟩ : ByteArray).size = 1 := rfl
theorem bl56 : bytesL ⟨#[123]⟩ = [123] := rfl
theorem zl57 : (⟨#[123, 125]⟩ : ByteArray).size = 2 := rfl
theorem bl57 : bytesL ⟨#[123, 125]⟩ = [123, 125] := rfl
theorem zl58 : (⟨#[124]⟩ : ByteArray).size = 1 := rfl
theorem bl58 : bytesL ⟨#[124]⟩ = [124] := rfl
theorem zl59 : (⟨#[124, 62]⟩ : ByteArray).size = 2 := rfl
theorem bl59 : bytesL ⟨#[124, 62]⟩ = [124, 62] := rfl
theorem zl60 : (⟨#[125]⟩ : ByteArray).size = 1 := rfl
theorem bl60 : bytesL ⟨#[125]⟩ = [125] := rfl
theorem zl61 : (⟨#[125, 42]⟩ : ByteArray).size = 2 := rfl
theorem bl61 : bytesL ⟨#[125, 42]⟩ = [125, 42] := rfl
theorem zl62 : (⟨#[125, 64]⟩ : ByteArray).size = 2 := rfl
theorem bl62 : bytesL ⟨#[125, 64]⟩ = [125, 64] := rfl
theorem bs {α β : Type} (a : α) (f : α → Option β) : (some a).bind f = f a := by simp
theorem obC {β : Type} {C : ByteArray → ByteArray → Option ByteArray} {f : ByteArray → Option β} {r : β} {a b : ByteArray} (hC : ∀ {a b : ByteArray}, a.size + b.size ≤ 4611686018427387904 → C a b = some (a ++ b)) (k : f (a ++ b) = some r)
  (h : a.size + b.size ≤ 4611686018427387904 := by (try simp only [Option.getD_some, List.length_append, bytesL_len, ByteArray.size_append, zl0, zl1, zl2, zl3, zl4, zl5, zl6, zl7, zl8, zl9, zl10, zl11, zl12, zl13, zl14, zl15, zl16, zl17, zl18, zl19, zl20, zl21, zl22, zl23, zl24, zl25, zl26, zl27, zl28, zl29, zl30, zl31, zl32, zl33, zl34, zl35, zl36, zl37, zl38, zl39, zl40, zl41, zl42, zl43, zl44, zl45, zl46, zl47, zl48, zl49, zl50, zl51, zl52, zl53, zl54, zl55, zl56, zl57, zl58, zl59, zl60, zl61, zl62]); omega) : (C a b).bind f = some r := ob _ (hC h) k
theorem infx {K : Nat} {op : Int} {s : ByteArray} (h : r09_infix K op = some s) : r09_infix K op = some s := h
theorem cmpx {K : Nat} {op : Int} {s : ByteArray} (h : text_compares K op = some s) : text_compares K op = some s := h
def SH0 (op : Int) (F : ByteArray → ByteArray) : Prop := ∀ {K : Nat} {nm : ByteArray} {r : RatA} {S : NodeA → Option ByteArray}, nm.size ≤ 1099511627776 → r09_show_body K S (.mk op nm r []) = some (F nm)
def SH1 (op : Int) (F : ByteArray → ByteArray → ByteArray) : Prop := ∀ {K : Nat} {nm : ByteArray} {r : RatA} {a : NodeA} {sa : ByteArray} {wa : Nat} {S : NodeA → Option ByteArray}, S a = some sa → sa.size ≤ wa → nm.size + wa ≤ 1099511627776 →
 r09_show_body K S (.mk op nm r [a]) = some (F nm sa)
def SH2 (op : Int) (F : ByteArray → ByteArray → ByteArray → ByteArray) : Prop := ∀ {K : Nat} {nm : ByteArray} {r : RatA} {a b : NodeA} {sa sb : ByteArray} {wa wb : Nat} {S : NodeA → Option ByteArray}, S a = some sa → S b = some sb → sa.size ≤ wa → sb.size ≤ wb → nm.size + wa + wb ≤ 1099511627776 →
 r09_show_body K S (.mk op nm r [a, b]) = some (F nm sa sb)
theorem mkSH0 {p : Prop} (h : p := by
 intros
 rename_i hz
 unfold r09_show_body
 have hC := @catO_ok
 generalize catO = C at hC ⊢
 simp only [NodeA.op_mk, NodeA.name_mk, NodeA.kids_mk, Int.reduceBEq, Bool.false_eq_true, if_false, if_true, bs, List.length_nil, List.length_singleton, Int.natCast_zero, Int.natCast_one, kid_z, kid_o]
 repeat (first | refine ob _ idx_z ?_ | refine ob _ idx_o ?_ | refine ob _ ha ?_ | refine ob _ hb ?_ | refine ob _ (infx rfl) ?_ | refine obC hC ?_)
 try rfl) : p := h
theorem mkSH1 {p : Prop} (h : p := by
 intros
 rename_i ha za hz
 unfold r09_show_body
 have hC := @catO_ok
 generalize catO = C at hC ⊢
 simp only [NodeA.op_mk, NodeA.name_mk, NodeA.kids_mk, Int.reduceBEq, Bool.false_eq_true, if_false, if_true, bs, List.length_nil, List.length_singleton, Int.natCast_zero, Int.natCast_one, kid_z, kid_o]
 repeat (first | refine ob _ idx_z ?_ | refine ob _ idx_o ?_ | refine ob _ ha ?_ | refine ob _ hb ?_ | refine ob _ (infx rfl) ?_ | refine obC hC ?_)
 try rfl) : p := h
theorem mkSH2 {p : Prop} (h : p := by
 intros
 rename_i ha hb za zb hz
 unfold r09_show_body
 have hC := @catO_ok
 generalize catO = C at hC ⊢
 simp only [NodeA.op_mk, NodeA.name_mk, NodeA.kids_mk, Int.reduceBEq, Bool.false_eq_true, if_false, if_true, bs, List.length_nil, List.length_singleton, Int.natCast_zero, Int.natCast_one, kid_z, kid_o]
 repeat (first | refine ob _ idx_z ?_ | refine ob _ idx_o ?_ | refine ob _ ha ?_ | refine ob _ hb ?_ | refine ob _ (infx rfl) ?_ | refine obC hC ?_)
 try rfl) : p := h
def TR0 (op : Int) (F : ByteArray → ByteArray) : Prop := ∀ {K : Nat} {nm : ByteArray} {r : RatA} {W j : Nat}, 5 ≤ K → ((namedS op || (op == 10 || op == 37)) = true → 0 < nm.size) → 60 + nm.size ≤ W → TP K (j + 4) (.mk op nm r []) (F nm) W
def TR1 (op : Int) (F : ByteArray → ByteArray → ByteArray) : Prop := ∀ {K : Nat} {nm : ByteArray} {r : RatA} {a : NodeA} {sa : ByteArray} {wa W j : Nat}, 5 ≤ K → ((namedS op || (op == 10 || op == 37)) = true → 0 < nm.size) → TP K j a sa wa → sa.size ≤ wa → 60 + nm.size + wa ≤ W →
 TP K (j + 4) (.mk op nm r [a]) (F nm sa) W
def TR2 (op : Int) (F : ByteArray → ByteArray → ByteArray → ByteArray) : Prop := ∀ {K : Nat} {nm : ByteArray} {r : RatA} {a b : NodeA} {sa sb : ByteArray} {wa wb W j : Nat}, 5 ≤ K → ((namedS op || (op == 10 || op == 37)) = true → 0 < nm.size) → TP K j a sa wa → TP K j b sb wb → sa.size ≤ wa → sb.size ≤ wb → 60 + nm.size + wa + wb ≤ W →
 TP K (j + 4) (.mk op nm r [a, b]) (F nm sa sb) W
section
variable {K j W : Nat} {n : NodeA} {s : ByteArray}
theorem tp_some (h0 : text_signs K n.op = some ⟨#[]⟩) (h : ∀ i, j ≤ i → ∀ x : Option (List Int), (x.getD []).length + W ≤ 1099511627776 → (if (sortS n.op == 1) then (grp_text_printer_tree K (i + 3)).2.1 (⟨x⟩, n) else if (sortS n.op == 2) then (grp_text_printer_tree K (i + 3)).2.2.1 (⟨x⟩, n) else (grp_text_printer_tree K (i + 3)).2.2.2.1 (⟨x⟩, n)) = some ⟨some (x.getD [] ++ bytesL s)⟩) : TP K (j + 4) n s W := by
 intro i hi x hx
 obtain ⟨i, rfl⟩ : ∃ i', i = i' + 4 := ⟨i - 4, by omega⟩
 rw [g_tree]; unfold text_printer_tree_body
 refine ob _ h0 ?_
 rw [empT, if_neg Bool.false_ne_true]
 refine ob _ tree_Sort_eq ?_
 have h := h i (by omega) x hx
 split
 ·next e => rw [if_pos e] at h; exact ob _ h rfl
 ·next e =>
  rw [if_neg e] at h
  split
  ·next e => rw [if_pos e] at h; exact ob _ h rfl
  ·next e => rw [if_neg e] at h; exact ob _ h rfl
theorem tp1 (h0 : text_signs K n.op = some ⟨#[]⟩) (h1 : sortS n.op = 1) (h : ∀ i, j ≤ i → ∀ x : Option (List Int), (x.getD []).length + W ≤ 1099511627776 → (grp_text_printer_tree K (i + 3)).2.1 (⟨x⟩, n) = some ⟨some (x.getD [] ++ bytesL s)⟩) : TP K (j + 4) n s W :=
 tp_some h0 (by rw [h1]; exact h)
theorem tp2 (h0 : text_signs K n.op = some ⟨#[]⟩) (h1 : sortS n.op = 2) (h : ∀ i, j ≤ i → ∀ x : Option (List Int), (x.getD []).length + W ≤ 1099511627776 → (grp_text_printer_tree K (i + 3)).2.2.1 (⟨x⟩, n) = some ⟨some (x.getD [] ++ bytesL s)⟩) : TP K (j + 4) n s W :=
 tp_some h0 (by rw [h1]; exact h)
theorem tp3 (h0 : text_signs K n.op = some ⟨#[]⟩) (h1 : sortS n.op = 3) (h : ∀ i, j ≤ i → ∀ x : Option (List Int), (x.getD []).length + W ≤ 1099511627776 → (grp_text_printer_tree K (i + 3)).2.2.2.1 (⟨x⟩, n) = some ⟨some (x.getD [] ++ bytesL s)⟩) : TP K (j + 4) n s W :=
 tp_some h0 (by rw [h1]; exact h)
variable {β : Type} {x : Option (List Int)} {a b c : ByteArray} {f : Text_printerA → Option β} {r : β} {i w : Nat}
theorem obP1 (hK : 5 ≤ K) (k : f ⟨some (x.getD [] ++ bytesL a)⟩ = some r) (h : x.isSome = true ∨ 0 < a.size := by first | exact .inl rfl | exact .inr (by decide) | exact .inr hn | exact .inr (by simp only [ByteArray.size_append, zl0, zl1, zl2, zl3, zl4, zl5, zl6, zl7, zl8, zl9, zl10, zl11, zl12, zl13, zl14, zl15, zl16, zl17, zl18, zl19, zl20, zl21, zl22, zl23, zl24, zl25, zl26, zl27, zl28, zl29, zl30, zl31, zl32, zl33, zl34, zl35, zl36, zl37, zl38, zl39, zl40, zl41, zl42, zl43, zl44, zl45, zl46, zl47, zl48, zl49, zl50, zl51, zl52, zl53, zl54, zl55, zl56, zl57, zl58, zl59, zl60, zl61, zl62]; omega)) (hl : (x.getD []).length + a.size ≤ 1099511627776 := by (try simp only [Option.getD_some, List.length_append, bytesL_len, ByteArray.size_append, zl0, zl1, zl2, zl3, zl4, zl5, zl6, zl7, zl8, zl9, zl10, zl11, zl12, zl13, zl14, zl15, zl16, zl17, zl18, zl19, zl20, zl21, zl22, zl23, zl24, zl25, zl26, zl27, zl28, zl29, zl30, zl31, zl32, zl33, zl34, zl35, zl36, zl37, zl38, zl39, zl40, zl41, zl42, zl43, zl44, zl45, zl46, zl47, zl48, zl49, zl50, zl51, zl52, zl53, zl54, zl55, zl56, zl57, zl58, zl59, zl60, zl61, zl62]); omega) : (text_printer_put K ⟨x⟩ [a]).bind f = some r := ob _ (put1 hK h hl) k
theorem obP2 (hK : 5 ≤ K) (k : f ⟨some (x.getD [] ++ bytesL a ++ bytesL b)⟩ = some r) (h : x.isSome = true ∨ 0 < a.size := by first | exact .inl rfl | exact .inr (by decide) | exact .inr hn | exact .inr (by simp only [ByteArray.size_append, zl0, zl1, zl2, zl3, zl4, zl5, zl6, zl7, zl8, zl9, zl10, zl11, zl12, zl13, zl14, zl15, zl16, zl17, zl18, zl19, zl20, zl21, zl22, zl23, zl24, zl25, zl26, zl27, zl28, zl29, zl30, zl31, zl32, zl33, zl34, zl35, zl36, zl37, zl38, zl39, zl40, zl41, zl42, zl43, zl44, zl45, zl46, zl47, zl48, zl49, zl50, zl51, zl52, zl53, zl54, zl55, zl56, zl57, zl58, zl59, zl60, zl61, zl62]; omega)) (hl : (x.getD []).length + a.size + b.size ≤ 1099511627776 := by (try simp only [Option.getD_some, List.length_append, bytesL_len, ByteArray.size_append, zl0, zl1, zl2, zl3, zl4, zl5, zl6, zl7, zl8, zl9, zl10, zl11, zl12, zl13, zl14, zl15, zl16, zl17, zl18, zl19, zl20, zl21, zl22, zl23, zl24, zl25, zl26, zl27, zl28, zl29, zl30, zl31, zl32, zl33, zl34, zl35, zl36, zl37, zl38, zl39, zl40, zl41, zl42, zl43, zl44, zl45, zl46, zl47, zl48, zl49, zl50, zl51, zl52, zl53, zl54, zl55, zl56, zl57, zl58, zl59, zl60, zl61, zl62]); omega) : (text_printer_put K ⟨x⟩ [a, b]).bind f = some r := ob _ (put2 hK h hl) k
theorem obT (h : TP K j n s w) (k : f ⟨some (x.getD [] ++ bytesL s)⟩ = some r) (hi : j ≤ i := by omega) (hl : (x.getD []).length + w ≤ 1099511627776 := by (try simp only [Option.getD_some, List.length_append, bytesL_len, ByteArray.size_append, zl0, zl1, zl2, zl3, zl4, zl5, zl6, zl7, zl8, zl9, zl10, zl11, zl12, zl13, zl14, zl15, zl16, zl17, zl18, zl19, zl20, zl21, zl22, zl23, zl24, zl25, zl26, zl27, zl28, zl29, zl30, zl31, zl32, zl33, zl34, zl35, zl36, zl37, zl38, zl39, zl40, zl41, zl42, zl43, zl44, zl45, zl46, zl47, zl48, zl49, zl50, zl51, zl52, zl53, zl54, zl55, zl56, zl57, zl58, zl59, zl60, zl61, zl62]); omega) : ((grp_text_printer_tree K i).1 (⟨x⟩, n)).bind f = some r := ob _ (h i hi x hl) k
theorem obA (hK : 5 ≤ K) (h : TP K j n s w) (hs : s.size ≤ w) (k : f ⟨some (x.getD [] ++ bytesL b ++ bytesL s ++ bytesL c)⟩ = some r) (hi : j ≤ i := by omega) (hb : x.isSome = true ∨ 0 < b.size := by first | exact .inl rfl | exact .inr (by decide) | exact .inr hn | exact .inr (by simp only [ByteArray.size_append, zl0, zl1, zl2, zl3, zl4, zl5, zl6, zl7, zl8, zl9, zl10, zl11, zl12, zl13, zl14, zl15, zl16, zl17, zl18, zl19, zl20, zl21, zl22, zl23, zl24, zl25, zl26, zl27, zl28, zl29, zl30, zl31, zl32, zl33, zl34, zl35, zl36, zl37, zl38, zl39, zl40, zl41, zl42, zl43, zl44, zl45, zl46, zl47, zl48, zl49, zl50, zl51, zl52, zl53, zl54, zl55, zl56, zl57, zl58, zl59, zl60, zl61, zl62]; omega)) (hx : (x.getD []).length + b.size + w + c.size ≤ 1099511627776 := by (try simp only [Option.getD_some, List.length_append, bytesL_len, ByteArray.size_append, zl0, zl1, zl2, zl3, zl4, zl5, zl6, zl7, zl8, zl9, zl10, zl11, zl12, zl13, zl14, zl15, zl16, zl17, zl18, zl19, zl20, zl21, zl22, zl23, zl24, zl25, zl26, zl27, zl28, zl29, zl30, zl31, zl32, zl33, zl34, zl35, zl36, zl37, zl38, zl39, zl40, zl41, zl42, zl43, zl44, zl45, zl46, zl47, zl48, zl49, zl50, zl51, zl52, zl53, zl54, zl55, zl56, zl57, zl58, zl59, zl60, zl61, zl62]); omega) :
  ((grp_text_printer_tree K (i + 1)).2.2.2.2.1 (⟨x⟩, b, n, c)).bind f = some r := ob _ (ar_ok hK h hs hi hb hx) k
theorem fin {p q : List Int} (h : p = q := by simp only [Option.getD_some, bytesL_app, bl0, bl1, bl2, bl3, bl4, bl5, bl6, bl7, bl8, bl9, bl10, bl11, bl12, bl13, bl14, bl15, bl16, bl17, bl18, bl19, bl20, bl21, bl22, bl23, bl24, bl25, bl26, bl27, bl28, bl29, bl30, bl31, bl32, bl33, bl34, bl35, bl36, bl37, bl38, bl39, bl40, bl41, bl42, bl43, bl44, bl45, bl46, bl47, bl48, bl49, bl50, bl51, bl52, bl53, bl54, bl55, bl56, bl57, bl58, bl59, bl60, bl61, bl62, List.append_assoc, List.cons_append, List.nil_append, List.append_nil]) : some (Text_printerA.mk (some p)) = some (Text_printerA.mk (some q)) := by rw [h]
end
theorem mkTR01 {p : Prop} (h : p := by
 intros
 rename_i hK hn hz
 try replace hn := hn (by decide +kernel)
 refine tp1 rfl (by kernel_rfl) fun i hi x hx => ?_
 rw [g_term]; unfold text_printer_term_body
 have hC := @catO_ok
 generalize catO = C at hC ⊢
 simp only [NodeA.op_mk, NodeA.name_mk, NodeA.kids_mk, Int.reduceBEq, Bool.false_eq_true, if_false, if_true, bs]
 repeat (first | refine ob _ idx_z ?_ | refine ob _ idx_o ?_ | refine obT ha ?_ | refine obT hb ?_ | refine obA hK ha za ?_ | refine obA hK hb zb ?_ | refine ob _ (cmpx rfl) ?_ | refine obP1 hK ?_ | refine obP2 hK ?_ | refine obC hC ?_ | refine ob _ (ob _ idx_z (obT ha rfl)) ?_ | (refine ob _ ?_ rfl; rw [g_symbol]; unfold text_printer_symbol_body; simp only [NodeA.name_mk, NodeA.kids_mk, List.length_nil, List.length_singleton, Int.natCast_zero, Int.natCast_one, Int.lt_irrefl, decide_false, decide_true, Int.zero_lt_one, Int.reduceLT, Bool.false_eq_true, if_false, if_true, bs]))
 exact fin) : p := h
theorem mkTR02 {p : Prop} (h : p := by
 intros
 rename_i hK hn hz
 try replace hn := hn (by decide +kernel)
 refine tp2 rfl (by kernel_rfl) fun i hi x hx => ?_
 rw [g_formula]; unfold text_printer_formula_body
 have hC := @catO_ok
 generalize catO = C at hC ⊢
 simp only [NodeA.op_mk, NodeA.name_mk, NodeA.kids_mk, Int.reduceBEq, Bool.false_eq_true, if_false, if_true, bs]
 repeat (first | refine ob _ idx_z ?_ | refine ob _ idx_o ?_ | refine obT ha ?_ | refine obT hb ?_ | refine obA hK ha za ?_ | refine obA hK hb zb ?_ | refine ob _ (cmpx rfl) ?_ | refine obP1 hK ?_ | refine obP2 hK ?_ | refine obC hC ?_ | refine ob _ (ob _ idx_z (obT ha rfl)) ?_ | (refine ob _ ?_ rfl; rw [g_symbol]; unfold text_printer_symbol_body; simp only [NodeA.name_mk, NodeA.kids_mk, List.length_nil, List.length_singleton, Int.natCast_zero, Int.natCast_one, Int.lt_irrefl, decide_false, decide_true, Int.zero_lt_one, Int.reduceLT, Bool.false_eq_true, if_false, if_true, bs]))
 exact fin) : p := h
theorem mkTR03 {p : Prop} (h : p := by
 intros
 rename_i hK hn hz
 try replace hn := hn (by decide +kernel)
 refine tp3 rfl (by kernel_rfl) fun i hi x hx => ?_
 rw [g_program]; unfold text_printer_program_body
 have hC := @catO_ok
 generalize catO = C at hC ⊢
 simp only [NodeA.op_mk, NodeA.name_mk, NodeA.kids_mk, Int.reduceBEq, Bool.false_eq_true, if_false, if_true, bs]
 repeat (first | refine ob _ idx_z ?_ | refine ob _ idx_o ?_ | refine obT ha ?_ | refine obT hb ?_ | refine obA hK ha za ?_ | refine obA hK hb zb ?_ | refine ob _ (cmpx rfl) ?_ | refine obP1 hK ?_ | refine obP2 hK ?_ | refine obC hC ?_ | refine ob _ (ob _ idx_z (obT ha rfl)) ?_ | (refine ob _ ?_ rfl; rw [g_symbol]; unfold text_printer_symbol_body; simp only [NodeA.name_mk, NodeA.kids_mk, List.length_nil, List.length_singleton, Int.natCast_zero, Int.natCast_one, Int.lt_irrefl, decide_false, decide_true, Int.zero_lt_one, Int.reduceLT, Bool.false_eq_true, if_false, if_true, bs]))
 exact fin) : p := h
theorem mkTR11 {p : Prop} (h : p := by
 intros
 rename_i hK hn ha za hz
 try replace hn := hn (by decide +kernel)
 refine tp1 rfl (by kernel_rfl) fun i hi x hx => ?_
 rw [g_term]; unfold text_printer_term_body
 have hC := @catO_ok
 generalize catO = C at hC ⊢
 simp only [NodeA.op_mk, NodeA.name_mk, NodeA.kids_mk, Int.reduceBEq, Bool.false_eq_true, if_false, if_true, bs]
 repeat (first | refine ob _ idx_z ?_ | refine ob _ idx_o ?_ | refine obT ha ?_ | refine obT hb ?_ | refine obA hK ha za ?_ | refine obA hK hb zb ?_ | refine ob _ (cmpx rfl) ?_ | refine obP1 hK ?_ | refine obP2 hK ?_ | refine obC hC ?_ | refine ob _ (ob _ idx_z (obT ha rfl)) ?_ | (refine ob _ ?_ rfl; rw [g_symbol]; unfold text_printer_symbol_body; simp only [NodeA.name_mk, NodeA.kids_mk, List.length_nil, List.length_singleton, Int.natCast_zero, Int.natCast_one, Int.lt_irrefl, decide_false, decide_true, Int.zero_lt_one, Int.reduceLT, Bool.false_eq_true, if_false, if_true, bs]))
 exact fin) : p := h
theorem mkTR12 {p : Prop} (h : p := by
 intros
 rename_i hK hn ha za hz
 try replace hn := hn (by decide +kernel)
 refine tp2 rfl (by kernel_rfl) fun i hi x hx => ?_
 rw [g_formula]; unfold text_printer_formula_body
 have hC := @catO_ok
 generalize catO = C at hC ⊢
 simp only [NodeA.op_mk, NodeA.name_mk, NodeA.kids_mk, Int.reduceBEq, Bool.false_eq_true, if_false, if_true, bs]
 repeat (first | refine ob _ idx_z ?_ | refine ob _ idx_o ?_ | refine obT ha ?_ | refine obT hb ?_ | refine obA hK ha za ?_ | refine obA hK hb zb ?_ | refine ob _ (cmpx rfl) ?_ | refine obP1 hK ?_ | refine obP2 hK ?_ | refine obC hC ?_ | refine ob _ (ob _ idx_z (obT ha rfl)) ?_ | (refine ob _ ?_ rfl; rw [g_symbol]; unfold text_printer_symbol_body; simp only [NodeA.name_mk, NodeA.kids_mk, List.length_nil, List.length_singleton, Int.natCast_zero, Int.natCast_one, Int.lt_irrefl, decide_false, decide_true, Int.zero_lt_one, Int.reduceLT, Bool.false_eq_true, if_false, if_true, bs]))
 exact fin) : p := h
theorem mkTR13 {p : Prop} (h : p := by
 intros
 rename_i hK hn ha za hz
 try replace hn := hn (by decide +kernel)
 refine tp3 rfl (by kernel_rfl) fun i hi x hx => ?_
 rw [g_program]; unfold text_printer_program_body
 have hC := @catO_ok
 generalize catO = C at hC ⊢
 simp only [NodeA.op_mk, NodeA.name_mk, NodeA.kids_mk, Int.reduceBEq, Bool.false_eq_true, if_false, if_true, bs]
 repeat (first | refine ob _ idx_z ?_ | refine ob _ idx_o ?_ | refine obT ha ?_ | refine obT hb ?_ | refine obA hK ha za ?_ | refine obA hK hb zb ?_ | refine ob _ (cmpx rfl) ?_ | refine obP1 hK ?_ | refine obP2 hK ?_ | refine obC hC ?_ | refine ob _ (ob _ idx_z (obT ha rfl)) ?_ | (refine ob _ ?_ rfl; rw [g_symbol]; unfold text_printer_symbol_body; simp only [NodeA.name_mk, NodeA.kids_mk, List.length_nil, List.length_singleton, Int.natCast_zero, Int.natCast_one, Int.lt_irrefl, decide_false, decide_true, Int.zero_lt_one, Int.reduceLT, Bool.false_eq_true, if_false, if_true, bs]))
 exact fin) : p := h
theorem mkTR22 {p : Prop} (h : p := by
 intros
 rename_i hK hn ha hb za zb hz
 try replace hn := hn (by decide +kernel)
 refine tp2 rfl (by kernel_rfl) fun i hi x hx => ?_
 rw [g_formula]; unfold text_printer_formula_body
 have hC := @catO_ok
 generalize catO = C at hC ⊢
 simp only [NodeA.op_mk, NodeA.name_mk, NodeA.kids_mk, Int.reduceBEq, Bool.false_eq_true, if_false, if_true, bs]
 repeat (first | refine ob _ idx_z ?_ | refine ob _ idx_o ?_ | refine obT ha ?_ | refine obT hb ?_ | refine obA hK ha za ?_ | refine obA hK hb zb ?_ | refine ob _ (cmpx rfl) ?_ | refine obP1 hK ?_ | refine obP2 hK ?_ | refine obC hC ?_ | refine ob _ (ob _ idx_z (obT ha rfl)) ?_ | (refine ob _ ?_ rfl; rw [g_symbol]; unfold text_printer_symbol_body; simp only [NodeA.name_mk, NodeA.kids_mk, List.length_nil, List.length_singleton, Int.natCast_zero, Int.natCast_one, Int.lt_irrefl, decide_false, decide_true, Int.zero_lt_one, Int.reduceLT, Bool.false_eq_true, if_false, if_true, bs]))
 exact fin) : p := h
theorem mkTR23 {p : Prop} (h : p := by
 intros
 rename_i hK hn ha hb za zb hz
 try replace hn := hn (by decide +kernel)
 refine tp3 rfl (by kernel_rfl) fun i hi x hx => ?_
 rw [g_program]; unfold text_printer_program_body
 have hC := @catO_ok
 generalize catO = C at hC ⊢
 simp only [NodeA.op_mk, NodeA.name_mk, NodeA.kids_mk, Int.reduceBEq, Bool.false_eq_true, if_false, if_true, bs]
 repeat (first | refine ob _ idx_z ?_ | refine ob _ idx_o ?_ | refine obT ha ?_ | refine obT hb ?_ | refine obA hK ha za ?_ | refine obA hK hb zb ?_ | refine ob _ (cmpx rfl) ?_ | refine obP1 hK ?_ | refine obP2 hK ?_ | refine obC hC ?_ | refine ob _ (ob _ idx_z (obT ha rfl)) ?_ | (refine ob _ ?_ rfl; rw [g_symbol]; unfold text_printer_symbol_body; simp only [NodeA.name_mk, NodeA.kids_mk, List.length_nil, List.length_singleton, Int.natCast_zero, Int.natCast_one, Int.lt_irrefl, decide_false, decide_true, Int.zero_lt_one, Int.reduceLT, Bool.false_eq_true, if_false, if_true, bs]))
 exact fin) : p := h
theorem mkTRI {p : Prop} (h : p := by
 intros
 rename_i hK hn ha hb za zb hz
 intro i hi x hx
 obtain ⟨i, rfl⟩ : ∃ i', i = i' + 4 := ⟨i - 4, by omega⟩
 rw [g_tree]; unfold text_printer_tree_body
 refine ob _ rfl ?_
 rw [if_pos (by kernel_rfl)]
 repeat (first | refine ob _ idx_z ?_ | refine ob _ idx_o ?_ | refine obT ha ?_ | refine obT hb ?_ | refine obP1 hK ?_)
 exact fin) : p := h
end Go.Proofs.YtemjeommnpocnaaGreat
namespace Go.Proofs.YtemjeommnpocnaaGreat
open Go Go.Iso Go.Proofs
set_option linter.unusedSimpArgs false
set_option linter.unusedVariables false
set_option maxRecDepth 100000
abbrev F2 (nm : ByteArray) : ByteArray := nm
theorem sh2 : SH0 2 F2 := mkSH0
theorem tr2 : TR0 2 F2 := mkTR01
abbrev F61 (nm : ByteArray) : ByteArray := nm
theorem sh61 : SH0 61 F61 := mkSH0
theorem tr61 : TR0 61 F61 := mkTR03
abbrev F3 (nm : ByteArray) : ByteArray := (nm ++ (⟨#[39]⟩ : ByteArray))
theorem sh3 : SH0 3 F3 := mkSH0
theorem tr3 : TR0 3 F3 := mkTR01
abbrev F4 (nm sa : ByteArray) : ByteArray := (((⟨#[40, 45]⟩ : ByteArray) ++ sa) ++ (⟨#[41]⟩ : ByteArray))
theorem sh4 : SH1 4 F4 := mkSH1
theorem tr4 : TR1 4 F4 := mkTR11
abbrev F5 (nm sa sb : ByteArray) : ByteArray := (((((((⟨#[40]⟩ : ByteArray) ++ sa) ++ (⟨#[32]⟩ : ByteArray)) ++ (⟨#[43]⟩ : ByteArray)) ++ (⟨#[32]⟩ : ByteArray)) ++ sb) ++ (⟨#[41]⟩ : ByteArray))
theorem sh5 : SH2 5 F5 := mkSH2
theorem tr5 : TR2 5 F5 := mkTRI
abbrev F6 (nm sa sb : ByteArray) : ByteArray := (((((((⟨#[40]⟩ : ByteArray) ++ sa) ++ (⟨#[32]⟩ : ByteArray)) ++ (⟨#[45]⟩ : ByteArray)) ++ (⟨#[32]⟩ : ByteArray)) ++ sb) ++ (⟨#[41]⟩ : ByteArray))
theorem sh6 : SH2 6 F6 := mkSH2
theorem tr6 : TR2 6 F6 := mkTRI
abbrev F7 (nm sa sb : ByteArray) : ByteArray := (((((((⟨#[40]⟩ : ByteArray) ++ sa) ++ (⟨#[32]⟩ : ByteArray)) ++ (⟨#[42]⟩ : ByteArray)) ++ (⟨#[32]⟩ : ByteArray)) ++ sb) ++ (⟨#[41]⟩ : ByteArray))
theorem sh7 : SH2 7 F7 := mkSH2
theorem tr7 : TR2 7 F7 := mkTRI
abbrev F8 (nm sa sb : ByteArray) : ByteArray := (((((((⟨#[40]⟩ : ByteArray) ++ sa) ++ (⟨#[32]⟩ : ByteArray)) ++ (⟨#[47]⟩ : ByteArray)) ++ (⟨#[32]⟩ : ByteArray)) ++ sb) ++ (⟨#[41]⟩ : ByteArray))
theorem sh8 : SH2 8 F8 := mkSH2
theorem tr8 : TR2 8 F8 := mkTRI
abbrev F9 (nm sa sb : ByteArray) : ByteArray := (((((((⟨#[40]⟩ : ByteArray) ++ sa) ++ (⟨#[32]⟩ : ByteArray)) ++ (⟨#[94]⟩ : ByteArray)) ++ (⟨#[32]⟩ : ByteArray)) ++ sb) ++ (⟨#[41]⟩ : ByteArray))
theorem sh9 : SH2 9 F9 := mkSH2
theorem tr9 : TR2 9 F9 := mkTRI
abbrev F29 (nm sa sb : ByteArray) : ByteArray := (((((((⟨#[40]⟩ : ByteArray) ++ sa) ++ (⟨#[32]⟩ : ByteArray)) ++ (⟨#[38]⟩ : ByteArray)) ++ (⟨#[32]⟩ : ByteArray)) ++ sb) ++ (⟨#[41]⟩ : ByteArray))
theorem sh29 : SH2 29 F29 := mkSH2
theorem tr29 : TR2 29 F29 := mkTRI
abbrev F30 (nm sa sb : ByteArray) : ByteArray := (((((((⟨#[40]⟩ : ByteArray) ++ sa) ++ (⟨#[32]⟩ : ByteArray)) ++ (⟨#[124]⟩ : ByteArray)) ++ (⟨#[32]⟩ : ByteArray)) ++ sb) ++ (⟨#[41]⟩ : ByteArray))
theorem sh30 : SH2 30 F30 := mkSH2
theorem tr30 : TR2 30 F30 := mkTRI
abbrev F31 (nm sa sb : ByteArray) : ByteArray := (((((((⟨#[40]⟩ : ByteArray) ++ sa) ++ (⟨#[32]⟩ : ByteArray)) ++ (⟨#[45, 62]⟩ : ByteArray)) ++ (⟨#[32]⟩ : ByteArray)) ++ sb) ++ (⟨#[41]⟩ : ByteArray))
theorem sh31 : SH2 31 F31 := mkSH2
theorem tr31 : TR2 31 F31 := mkTRI
abbrev F32 (nm sa sb : ByteArray) : ByteArray := (((((((⟨#[40]⟩ : ByteArray) ++ sa) ++ (⟨#[32]⟩ : ByteArray)) ++ (⟨#[60, 45, 62]⟩ : ByteArray)) ++ (⟨#[32]⟩ : ByteArray)) ++ sb) ++ (⟨#[41]⟩ : ByteArray))
theorem sh32 : SH2 32 F32 := mkSH2
theorem tr32 : TR2 32 F32 := mkTRI
abbrev F11 (nm : ByteArray) : ByteArray := (nm ++ (⟨#[123, 125]⟩ : ByteArray))
theorem sh11 : SH0 11 F11 := mkSH0
theorem tr11 : TR0 11 F11 := mkTR01
abbrev F38 (nm : ByteArray) : ByteArray := (nm ++ (⟨#[123, 125]⟩ : ByteArray))
theorem sh38 : SH0 38 F38 := mkSH0
theorem tr38 : TR0 38 F38 := mkTR02
abbrev F12 (nm sa : ByteArray) : ByteArray := (((⟨#[40]⟩ : ByteArray) ++ sa) ++ (⟨#[41, 39]⟩ : ByteArray))
theorem sh12 : SH1 12 F12 := mkSH1
theorem tr12 : TR1 12 F12 := mkTR11
abbrev F13 (nm : ByteArray) : ByteArray := (⟨#[95]⟩ : ByteArray)
theorem sh13 : SH0 13 F13 := mkSH0
theorem tr13 : TR0 13 F13 := mkTR01
abbrev F20 (nm : ByteArray) : ByteArray := (⟨#[116, 114, 117, 101]⟩ : ByteArray)
theorem sh20 : SH0 20 F20 := mkSH0
theorem tr20 : TR0 20 F20 := mkTR02
abbrev F21 (nm : ByteArray) : ByteArray := (⟨#[102, 97, 108, 115, 101]⟩ : ByteArray)
theorem sh21 : SH0 21 F21 := mkSH0
theorem tr21 : TR0 21 F21 := mkTR02
abbrev F22 (nm sa sb : ByteArray) : ByteArray := ((((sa ++ (⟨#[32]⟩ : ByteArray)) ++ (⟨#[61]⟩ : ByteArray)) ++ (⟨#[32]⟩ : ByteArray)) ++ sb)
theorem sh22 : SH2 22 F22 := mkSH2
theorem tr22 : TR2 22 F22 := mkTR22
abbrev F23 (nm sa sb : ByteArray) : ByteArray := ((((sa ++ (⟨#[32]⟩ : ByteArray)) ++ (⟨#[33, 61]⟩ : ByteArray)) ++ (⟨#[32]⟩ : ByteArray)) ++ sb)
theorem sh23 : SH2 23 F23 := mkSH2
theorem tr23 : TR2 23 F23 := mkTR22
abbrev F24 (nm sa sb : ByteArray) : ByteArray := ((((sa ++ (⟨#[32]⟩ : ByteArray)) ++ (⟨#[60]⟩ : ByteArray)) ++ (⟨#[32]⟩ : ByteArray)) ++ sb)
theorem sh24 : SH2 24 F24 := mkSH2
theorem tr24 : TR2 24 F24 := mkTR22
abbrev F25 (nm sa sb : ByteArray) : ByteArray := ((((sa ++ (⟨#[32]⟩ : ByteArray)) ++ (⟨#[60, 61]⟩ : ByteArray)) ++ (⟨#[32]⟩ : ByteArray)) ++ sb)
theorem sh25 : SH2 25 F25 := mkSH2
theorem tr25 : TR2 25 F25 := mkTR22
abbrev F26 (nm sa sb : ByteArray) : ByteArray := ((((sa ++ (⟨#[32]⟩ : ByteArray)) ++ (⟨#[62]⟩ : ByteArray)) ++ (⟨#[32]⟩ : ByteArray)) ++ sb)
theorem sh26 : SH2 26 F26 := mkSH2
theorem tr26 : TR2 26 F26 := mkTR22
abbrev F27 (nm sa sb : ByteArray) : ByteArray := ((((sa ++ (⟨#[32]⟩ : ByteArray)) ++ (⟨#[62, 61]⟩ : ByteArray)) ++ (⟨#[32]⟩ : ByteArray)) ++ sb)
theorem sh27 : SH2 27 F27 := mkSH2
theorem tr27 : TR2 27 F27 := mkTR22
abbrev F28 (nm sa : ByteArray) : ByteArray := ((⟨#[33]⟩ : ByteArray) ++ sa)
theorem sh28 : SH1 28 F28 := mkSH1
theorem tr28 : TR1 28 F28 := mkTR12
abbrev F33 (nm sa : ByteArray) : ByteArray := ((((⟨#[102, 111, 114, 97, 108, 108, 32]⟩ : ByteArray) ++ nm) ++ (⟨#[46, 32]⟩ : ByteArray)) ++ sa)
theorem sh33 : SH1 33 F33 := mkSH1
theorem tr33 : TR1 33 F33 := mkTR12
abbrev F34 (nm sa : ByteArray) : ByteArray := ((((⟨#[101, 120, 105, 115, 116, 115, 32]⟩ : ByteArray) ++ nm) ++ (⟨#[46, 32]⟩ : ByteArray)) ++ sa)
theorem sh34 : SH1 34 F34 := mkSH1
theorem tr34 : TR1 34 F34 := mkTR12
abbrev F35 (nm sa sb : ByteArray) : ByteArray := ((((⟨#[91]⟩ : ByteArray) ++ sa) ++ (⟨#[93]⟩ : ByteArray)) ++ sb)
theorem sh35 : SH2 35 F35 := mkSH2
theorem tr35 : TR2 35 F35 := mkTR22
abbrev F36 (nm sa sb : ByteArray) : ByteArray := ((((⟨#[60, 124]⟩ : ByteArray) ++ sa) ++ (⟨#[124, 62]⟩ : ByteArray)) ++ sb)
theorem sh36 : SH2 36 F36 := mkSH2
theorem tr36 : TR2 36 F36 := mkTR22
abbrev F39 (nm sa : ByteArray) : ByteArray := (((⟨#[64, 40]⟩ : ByteArray) ++ sa) ++ (⟨#[41]⟩ : ByteArray))
theorem sh39 : SH1 39 F39 := mkSH1
theorem tr39 : TR1 39 F39 := mkTR12
abbrev F50 (nm sa : ByteArray) : ByteArray := ((nm ++ (⟨#[32, 58, 61, 32]⟩ : ByteArray)) ++ sa)
theorem sh50 : SH1 50 F50 := mkSH1
theorem tr50 : TR1 50 F50 := mkTR13
abbrev F51 (nm sa : ByteArray) : ByteArray := ((nm ++ (⟨#[39, 32, 58, 61, 32]⟩ : ByteArray)) ++ sa)
theorem sh51 : SH1 51 F51 := mkSH1
theorem tr51 : TR1 51 F51 := mkTR13
abbrev F52 (nm : ByteArray) : ByteArray := (nm ++ (⟨#[32, 58, 61, 32, 42]⟩ : ByteArray))
theorem sh52 : SH0 52 F52 := mkSH0
theorem tr52 : TR0 52 F52 := mkTR03
abbrev F53 (nm sa : ByteArray) : ByteArray := ((⟨#[63]⟩ : ByteArray) ++ sa)
theorem sh53 : SH1 53 F53 := mkSH1
theorem tr53 : TR1 53 F53 := mkTR13
abbrev F55 (nm sa : ByteArray) : ByteArray := ((nm ++ (⟨#[39, 32, 61, 32]⟩ : ByteArray)) ++ sa)
theorem sh55 : SH1 55 F55 := mkSH1
abbrev F56 (nm : ByteArray) : ByteArray := (nm ++ (⟨#[46, 46]⟩ : ByteArray))
theorem sh56 : SH0 56 F56 := mkSH0
abbrev F57 (nm sa sb : ByteArray) : ByteArray := (((((⟨#[123]⟩ : ByteArray) ++ sa) ++ (⟨#[32, 59, 32]⟩ : ByteArray)) ++ sb) ++ (⟨#[125]⟩ : ByteArray))
theorem sh57 : SH2 57 F57 := mkSH2
theorem tr57 : TR2 57 F57 := mkTR23
abbrev F58 (nm sa sb : ByteArray) : ByteArray := (((((⟨#[123]⟩ : ByteArray) ++ sa) ++ (⟨#[32, 43, 43, 32]⟩ : ByteArray)) ++ sb) ++ (⟨#[125]⟩ : ByteArray))
theorem sh58 : SH2 58 F58 := mkSH2
theorem tr58 : TR2 58 F58 := mkTR23
abbrev F59 (nm sa : ByteArray) : ByteArray := (((⟨#[123]⟩ : ByteArray) ++ sa) ++ (⟨#[125, 42]⟩ : ByteArray))
theorem sh59 : SH1 59 F59 := mkSH1
theorem tr59 : TR1 59 F59 := mkTR13
abbrev F60 (nm sa : ByteArray) : ByteArray := (((⟨#[123]⟩ : ByteArray) ++ sa) ++ (⟨#[125, 64]⟩ : ByteArray))
theorem sh60 : SH1 60 F60 := mkSH1
theorem tr60 : TR1 60 F60 := mkTR13
abbrev F62 (nm : ByteArray) : ByteArray := (nm ++ (⟨#[33]⟩ : ByteArray))
theorem sh62 : SH0 62 F62 := mkSH0
theorem tr62 : TR0 62 F62 := mkTR03
abbrev F10_0 (nm : ByteArray) : ByteArray := (nm ++ (⟨#[40, 41]⟩ : ByteArray))
theorem sh10_0 : SH0 10 F10_0 := mkSH0
theorem tr10_0 : TR0 10 F10_0 := mkTR01
abbrev F10_1 (nm sa : ByteArray) : ByteArray := (((nm ++ (⟨#[40]⟩ : ByteArray)) ++ sa) ++ (⟨#[41]⟩ : ByteArray))
theorem sh10_1 : SH1 10 F10_1 := mkSH1
theorem tr10_1 : TR1 10 F10_1 := mkTR11
abbrev F37_0 (nm : ByteArray) : ByteArray := (nm ++ (⟨#[40, 41]⟩ : ByteArray))
theorem sh37_0 : SH0 37 F37_0 := mkSH0
theorem tr37_0 : TR0 37 F37_0 := mkTR02
abbrev F37_1 (nm sa : ByteArray) : ByteArray := (((nm ++ (⟨#[40]⟩ : ByteArray)) ++ sa) ++ (⟨#[41]⟩ : ByteArray))
theorem sh37_1 : SH1 37 F37_1 := mkSH1
theorem tr37_1 : TR1 37 F37_1 := mkTR12
end Go.Proofs.YtemjeommnpocnaaGreat
namespace Go.Proofs.YtemjeommnpocnaaGreat
open Go Go.Iso Go.Proofs
set_option linter.unusedSimpArgs false
set_option linter.unusedVariables false
set_option maxRecDepth 100000
/-! ### Flows -/
def FT (t : Nat → ByteArray) : Nat → ByteArray
 | 0 => ⟨#[123]⟩
 | k + 1 => (if 0 < k then FT t k ++ (⟨#[44, 32]⟩ : ByteArray) else FT t k) ++ t k
def WT (w : Nat → Nat) : Nat → Nat
 | 0 => 1
 | k + 1 => WT w k + 2 + w k
theorem zc1 : (⟨#[123]⟩ : ByteArray).size = 1 := rfl
theorem zc2 : (⟨#[44, 32]⟩ : ByteArray).size = 2 := rfl
theorem zc3 : (⟨#[32, 38, 32]⟩ : ByteArray).size = 3 := rfl
theorem zc4 : (⟨#[125]⟩ : ByteArray).size = 1 := rfl
theorem zc5 : (⟨#[46, 46]⟩ : ByteArray).size = 2 := rfl
theorem zc6 : (⟨#[39, 32, 61, 32]⟩ : ByteArray).size = 4 := rfl
theorem zc7 : (⟨#[]⟩ : ByteArray).size = 0 := rfl
theorem bytesL_nil : bytesL ⟨#[]⟩ = [] := rfl
theorem FT_size {t : Nat → ByteArray} {w : Nat → Nat} {m : Nat} (h : ∀ i, i < m → (t i).size ≤ w i) : ∀ k, k ≤ m → (FT t k).size ≤ WT w k
 | 0, _ => by rw [FT, WT, zc1]; exact Nat.le_refl _
 | k + 1, hk => by
  have a := FT_size h k (by omega)
  have b := h k (by omega)
  rw [FT, WT]
  split
  ·rw [ByteArray.size_append, ByteArray.size_append, zc2]; omega
  ·rw [ByteArray.size_append]; omega
theorem WT_mono {w : Nat → Nat} : ∀ {k m}, k ≤ m → WT w k ≤ WT w m
 | k, 0, h => by obtain rfl : k = 0 := by omega
                 exact Nat.le_refl _
 | k, m + 1, h => by
  by_cases e : k = m + 1
  ·subst e; exact Nat.le_refl _
  ·have := @WT_mono w k m (by omega); rw [show WT w (m + 1) = WT w m + 2 + w m from rfl]; omega
theorem w64m {k : Nat} (h : k < 9223372036854775807) : IntKind.wrap .i64 (((k + 1 : Nat) : Int) - 1) = (k : Int) := by rw [w64 (by omega) (by omega)]; omega
theorem ltN {a b : Nat} (h : a < b) : decide ((a : Int) < (b : Int)) = true := decide_eq_true (by omega)
theorem ltN0 {a b : Nat} (h : b ≤ a) : decide ((a : Int) < (b : Int)) = false := decide_eq_false (by omega)
theorem zltN {a : Nat} (h : 0 < a) : decide ((0 : Int) < (a : Int)) = true := decide_eq_true (by omega)
theorem zltN0 {a : Nat} (h : a = 0) : decide ((0 : Int) < (a : Int)) = false := decide_eq_false (by omega)
theorem sh54 {K m : Nat} {nm : ByteArray} {r : RatA} {ks : List NodeA} {S : NodeA → Option ByteArray} {t : Nat → ByteArray} {w : Nat → Nat} {sf : ByteArray} {wf : Nat} (hl : ks.length = m + 1) (hm : m < K)
  (ht : ∀ i (hi : i < m), S (ks[i]'(by omega)) = some (t i)) (hw : ∀ i, i < m → (t i).size ≤ w i) (hf : S (ks[m]'(by omega)) = some sf) (zf : sf.size ≤ wf) (hz : WT w m + wf ≤ 1099511627776) (hm2 : m ≤ 1099511627776) :
  r09_show_body K S (.mk 54 nm r ks) = some (((FT t m ++ (⟨#[32, 38, 32]⟩ : ByteArray)) ++ sf) ++ (⟨#[125]⟩ : ByteArray)) := by
 unfold r09_show_body
 have hC : ∀ a b : ByteArray, a.size + b.size ≤ 4611686018427387904 → catO a b = some (a ++ b) := fun a b h => catO_ok h
 generalize catO = C at hC ⊢
 simp only [NodeA.op_mk, NodeA.name_mk, NodeA.kids_mk, Int.reduceBEq, Bool.false_eq_true, if_false, if_true, bs, hl, w64m (show m < 9223372036854775807 by omega)]
 have hFm := FT_size hw m (Nat.le_refl _)
 refine ob (FT t m) (foldG m (fun i => (FT t i, (i : Int))) _ (fun g i hi => ?_) (fun g => ?_) hm rfl) ?_
 ·have hFi := FT_size hw i (by omega)
  have hi1 := FT_size hw (i + 1) (by omega)
  have hmn := WT_mono (w := w) (show i + 1 ≤ m by omega)
  have hti := hw i hi
  rw [show WT w (i + 1) = WT w i + 2 + w i from rfl] at hmn
  have hx : idx ks (i : Int) = some (ks[i]'(by omega)) := by rw [idx_nat, List.getElem?_eq_getElem (by omega)]
  have hS := ht i hi
  by_cases h0 : 0 < i
  ·have c1 := hC (FT t i) ⟨#[44, 32]⟩ (by rw [zc2]; omega)
   have c2 := hC (FT t i ++ ⟨#[44, 32]⟩) (t i) (by rw [ByteArray.size_append, zc2]; omega)
   simp only [ltN hi, zltN h0, if_true, c1, bs, hx, hS, c2, FT, h0, w64s (show i < 9223372036854775807 by omega)]
  ·have c2 := hC (FT t i) (t i) (by omega)
   simp only [ltN hi, zltN0 (show i = 0 by omega), Bool.false_eq_true, if_true, if_false, bs, hx, hS, c2, FT, h0, w64s (show i < 9223372036854775807 by omega)]
 ·simp only [ltN0 (Nat.le_refl m), Bool.false_eq_true, if_false]
 ·have hx : idx ks (m : Int) = some (ks[m]'(by omega)) := by rw [idx_nat, List.getElem?_eq_getElem (by omega)]
  refine ob _ (hC _ _ (by rw [zc3]; omega)) ?_
  refine ob _ hx ?_
  refine ob _ hf ?_
  refine ob _ (hC _ _ (by rw [ByteArray.size_append, zc3]; omega)) ?_
  refine ob _ (hC _ _ (by rw [ByteArray.size_append, ByteArray.size_append, zc3, zc4]; omega)) ?_
  rfl
def EqT (K j : Nat) (e : NodeA) (t : ByteArray) (w : Nat) : Prop :=
 0 < e.name.size ∧ ((e.op = 56 ∧ t = e.name ++ (⟨#[46, 46]⟩ : ByteArray) ∧ e.name.size + 2 ≤ w) ∨
  (e.op ≠ 56 ∧ ∃ a sa wa, e.kids[0]? = some a ∧ TP K j a sa wa ∧ sa.size ≤ wa ∧ t = (e.name ++ (⟨#[39, 32, 61, 32]⟩ : ByteArray)) ++ sa ∧ e.name.size + 4 + wa ≤ w))
theorem EqT.size {K j : Nat} {e : NodeA} {t : ByteArray} {w : Nat} (h : EqT K j e t w) : t.size ≤ w := by
 obtain ⟨_, ⟨_, rfl, h⟩ | ⟨_, a, sa, wa, _, _, h1, rfl, h⟩⟩ := h
 ·rw [ByteArray.size_append, zc5]; exact h
 ·rw [ByteArray.size_append, ByteArray.size_append, zc6]; omega
theorem ne_beq {a b : Int} (h : a ≠ b) : (a == b) = false := beq_eq_false_iff_ne.2 h
theorem tr54 {K m j W : Nat} {nm : ByteArray} {r : RatA} {ks : List NodeA} {t : Nat → ByteArray} {w : Nat → Nat} {sf : ByteArray} {wf : Nat} (hK : 5 ≤ K) (hl : ks.length = m + 1) (hm : m < K)
  (ht : ∀ i (hi : i < m), EqT K j (ks[i]'(by omega)) (t i) (w i)) (hf : TP K j (ks[m]'(by omega)) sf wf) (zf : sf.size ≤ wf) (hz : 10 + WT w m + wf ≤ W) (hm2 : m ≤ 1099511627776) :
  TP K (j + 4) (.mk 54 nm r ks) (((FT t m ++ (⟨#[32, 38, 32]⟩ : ByteArray)) ++ sf) ++ (⟨#[125]⟩ : ByteArray)) W := by
 intro i hi x hx
 obtain ⟨i, rfl⟩ : ∃ i', i = i' + 4 := ⟨i - 4, by omega⟩
 rw [g_tree]; unfold text_printer_tree_body
 refine ob _ (show text_signs K (NodeA.mk 54 nm r ks).op = some ⟨#[]⟩ from rfl) ?_
 rw [empT, if_neg Bool.false_ne_true]
 refine ob _ tree_Sort_eq ?_
 simp only [NodeA.op_mk, show sortS 54 = 3 from by kernel_rfl, Int.reduceBEq, Bool.false_eq_true, if_false, if_true]
 refine ob _ ?_ rfl
 rw [g_program]; unfold text_printer_program_body
 have hC : ∀ a b : ByteArray, a.size + b.size ≤ 4611686018427387904 → catO a b = some (a ++ b) := fun a b h => catO_ok h
 have hw : ∀ i, i < m → (t i).size ≤ w i := fun i hi => (ht i hi).size
 have hFm := FT_size hw m (Nat.le_refl _)
 generalize hCe : catO = C at hC ⊢
 simp only [NodeA.op_mk, NodeA.name_mk, NodeA.kids_mk, Int.reduceBEq, Bool.false_eq_true, if_false, if_true, bs]
 refine ob _ ?_ rfl
 rw [g_flow]; unfold text_printer_flow_body
 rw [hCe]
 clear hCe
 refine ob _ (put1 hK (.inr (by decide)) (by rw [zc1]; omega)) ?_
 have hcut : cutL ks none (some (m : Int)) = some (ks.take m) := by
  unfold cutL
  simp only [Option.getD_some, Option.getD_none]
  rw [if_pos (by omega)]
  simp
 simp only [NodeA.kids_mk, hl, w64m (show m < 9223372036854775807 by omega)]
 refine ob _ hcut ?_
 have hlt : (ks.take m).length = m := by rw [List.length_take]; omega
 rw [hlt]
 refine ob (some (x.getD [] ++ bytesL (FT t m))) (foldG m (fun k => ((k : Int), some (x.getD [] ++ bytesL (FT t k)))) _ (fun g k hk => ?_) (fun g => ?_) hm rfl) ?_
 ·have hFi := FT_size hw k (by omega)
  have hmn := WT_mono (w := w) (show k + 1 ≤ m by omega)
  rw [show WT w (k + 1) = WT w k + 2 + w k from rfl] at hmn
  have hx2 : idx (ks.take m) (k : Int) = some (ks[k]'(by omega)) := by
   rw [idx_nat, List.getElem?_take, if_pos hk, List.getElem?_eq_getElem (by omega)]
  obtain ⟨hn, hE⟩ := ht k hk
  rw [if_pos (ltN hk)]
  refine ob (some (x.getD [] ++ bytesL (FT t (k + 1)))) (ob _ hx2 ?_) (by rw [w64s (show k < 9223372036854775807 by omega)])
  refine ob (some (x.getD [] ++ bytesL (if 0 < k then FT t k ++ (⟨#[44, 32]⟩ : ByteArray) else FT t k))) ?_ ?_
  ·by_cases h0 : 0 < k
   ·rw [if_pos (zltN h0), if_pos h0]
    refine ob _ (put1 hK (.inl rfl) (by rw [zc2, Option.getD_some, List.length_append, bytesL_len]; omega)) ?_
    rw [Option.getD_some, bytesL_app, List.append_assoc]
   ·rw [if_neg (by rw [zltN0 (show k = 0 by omega)]; exact Bool.false_ne_true), if_neg h0]
  ·have hFi2 : (if 0 < k then FT t k ++ (⟨#[44, 32]⟩ : ByteArray) else FT t k).size ≤ WT w k + 2 := by
    split
    ·rw [ByteArray.size_append, zc2]; omega
    ·omega
   rw [FT]
   generalize (if 0 < k then FT t k ++ (⟨#[44, 32]⟩ : ByteArray) else FT t k) = Z at hFi2 ⊢
   rcases hE with ⟨h56, he, hz1⟩ | ⟨h56, a, sa, wa, ha, hT, hs, he, hz1⟩
   ·rw [h56, if_pos (by rfl)]
    refine ob _ (put2 hK (.inl rfl) (by rw [zc5, Option.getD_some, List.length_append, bytesL_len]; omega)) ?_
    rw [Option.getD_some, he, bytesL_app, bytesL_app, List.append_assoc, List.append_assoc]
   ·rw [ne_beq h56, if_neg Bool.false_ne_true]
    refine ob _ (hC _ _ (by rw [zc6]; omega)) ?_
    refine ob _ (show idx (ks[k]'(by omega)).kids (0 : Int) = some a by rw [← ha]; exact idx_nat) ?_
    refine ob _ (ar_ok hK (i := i) hT hs (by omega) (.inl rfl) (by rw [Option.getD_some, List.length_append, bytesL_len, ByteArray.size_append, zc6, zc7]; omega)) ?_
    rw [Option.getD_some, he, bytesL_app, bytesL_app, bytesL_app, bytesL_app, bytesL_nil]
    simp only [List.append_assoc, List.append_nil]
 ·rw [if_neg (by rw [ltN0 (Nat.le_refl m)]; exact Bool.false_ne_true)]
 ·have hx2 : idx ks (m : Int) = some (ks[m]'(by omega)) := by rw [idx_nat, List.getElem?_eq_getElem (by omega)]
  refine ob _ hx2 ?_
  refine ob _ (ar_ok hK (i := i) hf zf (by omega) (.inl rfl) (by rw [Option.getD_some, List.length_append, bytesL_len, zc3, zc4]; omega)) ?_
  rw [Option.getD_some, bytesL_app, bytesL_app, bytesL_app]
  simp only [List.append_assoc]
end Go.Proofs.YtemjeommnpocnaaGreat
namespace Go.Proofs.YtemjeommnpocnaaGreat
open Go Go.Iso Go.Proofs
set_option linter.unusedSimpArgs false
set_option linter.unusedVariables false
set_option maxRecDepth 100000
/-! ### Every well-formed tree -/
def Good (K : Nat) (n : NodeA) (s : ByteArray) : Prop :=
 (∀ i, n.size ≤ i → iter i (fun self q => r09_show_body K self q) n = some s) ∧ (if sortS n.op = 4 then EqT K (4 * (n.size - 1)) n s (300 * n.size - 2) else TP K (4 * n.size) n s (300 * n.size)) ∧ s.size ≤ 300 * n.size
def All (n : NodeA) : Prop := ∃ K0 s, ∀ K, K0 ≤ K → Good K n s
theorem TP.mono {K j i w v : Nat} {n : NodeA} {s : ByteArray} (h : TP K j n s w) (h1 : j ≤ i) (h2 : w ≤ v) : TP K i n s v :=
 fun k hk x hx => h k (by omega) x (by omega)
theorem nsz1 {op : Int} {nm : ByteArray} {r : RatA} {a : NodeA} : (NodeA.mk op nm r [a]).size = 1 + a.size := by rw [NodeA.size_mk]; simp
theorem nsz2 {op : Int} {nm : ByteArray} {r : RatA} {a b : NodeA} : (NodeA.mk op nm r [a, b]).size = 1 + (a.size + b.size) := by rw [NodeA.size_mk]; simp
theorem nsz0 {op : Int} {nm : ByteArray} {r : RatA} : (NodeA.mk op nm r []).size = 1 := by rw [NodeA.size_mk]; simp
def AL (op : Int) : Prop := ∀ {nm : ByteArray} {r : RatA} {ks : List NodeA} {d fd fl : Bool}, okS (.mk op nm r ks) d fd fl = true → (NodeA.mk op nm r ks).size ≤ 4000 → (∀ k ∈ ks, All k) → All (.mk op nm r ks)
section
variable {op : Int} {nm : ByteArray} {r : RatA} {a b : NodeA}
theorem good0 {F : ByteArray → ByteArray} (h1 : SH0 op F) (h2 : TR0 op F) (h3 : ∀ nm, (F nm).size ≤ nm.size + 60) (hop : sortS op ≠ 4) (hn : nm.size ≤ 12) (hp : (namedS op || (op == 10 || op == 37)) = true → 0 < nm.size) : All (.mk op nm r []) := by
 have h3 := h3 nm
 refine ⟨5, F nm, fun K hK => ⟨fun i hi => ?_, ?_, ?_⟩⟩
 ·obtain ⟨i, rfl⟩ : ∃ i', i = i' + 1 := ⟨i - 1, by rw [nsz0] at hi; omega⟩
  rw [iter_succ]; exact h1 (by omega)
 ·rw [NodeA.op_mk, if_neg hop, nsz0]; exact h2 (j := 0) hK hp (by omega)
 ·rw [nsz0]; omega
theorem good1 {F : ByteArray → ByteArray → ByteArray} (h1 : SH1 op F) (h2 : TR1 op F) (h3 : ∀ nm sa, (F nm sa).size ≤ sa.size + nm.size + 60) (hop : sortS op ≠ 4) (hn : nm.size ≤ 12) (hp : (namedS op || (op == 10 || op == 37)) = true → 0 < nm.size)
  (hz : (NodeA.mk op nm r [a]).size ≤ 4000) (hs : sortS a.op ≠ 4) (ha : All a) : All (.mk op nm r [a]) := by
 obtain ⟨k, sa, h⟩ := ha
 have h3 := h3 nm sa
 refine ⟨k + 5, F nm sa, fun K hK => ?_⟩
 obtain ⟨a1, a2, a3⟩ := h K (by omega)
 rw [if_neg hs] at a2
 rw [nsz1] at hz
 refine ⟨fun i hi => ?_, ?_, ?_⟩
 ·obtain ⟨i, rfl⟩ : ∃ i', i = i' + 1 := ⟨i - 1, by rw [nsz1] at hi; omega⟩
  rw [iter_succ]; exact h1 (a1 i (by rw [nsz1] at hi; omega)) a3 (by omega)
 ·rw [NodeA.op_mk, if_neg hop, nsz1, show 4 * (1 + a.size) = 4 * a.size + 4 by omega]; exact h2 (by omega) hp a2 a3 (by omega)
 ·rw [nsz1]; omega
theorem good2 {F : ByteArray → ByteArray → ByteArray → ByteArray} (h1 : SH2 op F) (h2 : TR2 op F) (h3 : ∀ nm sa sb, (F nm sa sb).size ≤ sa.size + sb.size + nm.size + 60) (hop : sortS op ≠ 4) (hn : nm.size ≤ 12) (hp : (namedS op || (op == 10 || op == 37)) = true → 0 < nm.size)
  (hz : (NodeA.mk op nm r [a, b]).size ≤ 4000) (hsa : sortS a.op ≠ 4) (ha : All a) (hsb : sortS b.op ≠ 4) (hb : All b) : All (.mk op nm r [a, b]) := by
 obtain ⟨k, sa, h⟩ := ha
 obtain ⟨k', sb, h'⟩ := hb
 have h3 := h3 nm sa sb
 refine ⟨k + k' + 5, F nm sa sb, fun K hK => ?_⟩
 obtain ⟨a1, a2, a3⟩ := h K (by omega)
 obtain ⟨b1, b2, b3⟩ := h' K (by omega)
 rw [if_neg hsa] at a2
 rw [if_neg hsb] at b2
 rw [nsz2] at hz
 refine ⟨fun i hi => ?_, ?_, ?_⟩
 ·obtain ⟨i, rfl⟩ : ∃ i', i = i' + 1 := ⟨i - 1, by rw [nsz2] at hi; omega⟩
  rw [iter_succ]; exact h1 (a1 i (by rw [nsz2] at hi; omega)) (b1 i (by rw [nsz2] at hi; omega)) a3 b3 (by omega)
 ·rw [NodeA.op_mk, if_neg hop, nsz2, show 4 * (1 + (a.size + b.size)) = 4 * (a.size + b.size) + 4 by omega]
  exact h2 (by omega) hp (a2.mono (by omega) (Nat.le_refl _)) (b2.mono (by omega) (Nat.le_refl _)) a3 b3 (by omega)
 ·rw [nsz2]; omega
end
theorem nameB_size {s : ByteArray} (h : nameB s = true) : 0 < s.size ∧ s.size ≤ 12 := by
 unfold nameB at h
 rw [Bool.and_eq_true, Bool.not_eq_true', Bool.or_eq_false_iff, Bool.or_eq_false_iff, decide_eq_false_iff_not, beq_eq_false_iff_ne] at h
 omega
theorem facts {op : Int} {nm : ByteArray} {r : RatA} {ks : List NodeA} {d fd fl : Bool} (h : okS (.mk op nm r ks) d fd fl = true) :
  nm.size ≤ 12 ∧ ((namedS op || (op == 10 || op == 37)) = true → 0 < nm.size) ∧ (ks.map fun x => sortS x.op) = sortsC (.mk op nm r ks) ∧ stC (.mk op nm r ks) d fd fl = true ∧ numC (.mk op nm r ks) = true := by
 rw [okS_eq] at h
 simp only [Bool.and_eq_true, NodeA.kids_mk] at h
 obtain ⟨h1, h2, h3, h4, h5, h6⟩ := h
 refine ⟨?_, fun hn => ?_, eq_of_beq h4, h3, h1⟩
 ·unfold nameC at h2
  rw [NodeA.op_mk, NodeA.name_mk] at h2
  split at h2
  ·exact (nameB_size h2).2
  ·obtain rfl := bytes_eq.1 h2; exact Nat.zero_le _
 ·unfold nameC at h2
  rw [NodeA.op_mk, NodeA.name_mk, if_pos hn] at h2
  exact (nameB_size h2).1
theorem sortsC_eq {op : Int} {nm : ByteArray} {r : RatA} {ks : List NodeA} (h1 : (op == 10 || op == 37) = false) (h2 : (op == 54) = false) : sortsC (.mk op nm r ks) = (sortsS op).getD [] := by
 unfold sortsC
 rw [NodeA.op_mk, h1, h2]; rfl
theorem no_kids {ks : List NodeA} {f : NodeA → Int} (h : ks.map f = []) : ks = [] := List.map_eq_nil_iff.1 h
theorem one_kid {ks : List NodeA} {f : NodeA → Int} {x : Int} (h : ks.map f = [x]) : ∃ a, ks = [a] ∧ f a = x := by
 match ks, h with
 | [a], h => exact ⟨a, rfl, by simpa using h⟩
theorem two_kids {ks : List NodeA} {f : NodeA → Int} {x y : Int} (h : ks.map f = [x, y]) : ∃ a b, ks = [a, b] ∧ f a = x ∧ f b = y := by
 match ks, h with
 | [a, b], h => exact ⟨a, b, rfl, by simpa using h⟩
theorem ne4 {x y : Int} (h : x = y) (h4 : y ≠ 4) : x ≠ 4 := by rw [h]; exact h4
def sorts01 (l : List Int) : Nat := if l.all (· != 4) then l.length else 9
section
variable {op : Int}
theorem lal0 {F : ByteArray → ByteArray} (h1 : SH0 op F) (h2 : TR0 op F) (h10 : (op == 10 || op == 37) = false := by kernel_rfl) (h54 : (op == 54) = false := by kernel_rfl) (hk : sorts01 ((sortsS op).getD []) = 0 := by kernel_rfl) (hop : (sortS op != 4) = true := by kernel_rfl)
  (h3 : ∀ nm, (F nm).size ≤ nm.size + 60 := by intro nm; (try simp only [ByteArray.size_append, zl0, zl1, zl2, zl3, zl4, zl5, zl6, zl7, zl8, zl9, zl10, zl11, zl12, zl13, zl14, zl15, zl16, zl17, zl18, zl19, zl20, zl21, zl22, zl23, zl24, zl25, zl26, zl27, zl28, zl29, zl30, zl31, zl32, zl33, zl34, zl35, zl36, zl37, zl38, zl39, zl40, zl41, zl42, zl43, zl44, zl45, zl46, zl47, zl48, zl49, zl50, zl51, zl52, zl53, zl54, zl55, zl56, zl57, zl58, zl59, zl60, zl61, zl62]); omega) : AL op := by
 intro nm r ks d fd fl h hz ih
 obtain ⟨hn, hp, hm, _⟩ := facts h
 rw [sortsC_eq h10 h54] at hm
 unfold sorts01 at hk
 split at hk
 ·rw [List.length_eq_zero_iff.1 hk] at hm
  obtain rfl := no_kids hm
  exact good0 h1 h2 h3 (bne_iff_ne.1 hop) hn hp
 ·cases hk
theorem lal1 {F : ByteArray → ByteArray → ByteArray} (h1 : SH1 op F) (h2 : TR1 op F) (h10 : (op == 10 || op == 37) = false := by kernel_rfl) (h54 : (op == 54) = false := by kernel_rfl) (hk : sorts01 ((sortsS op).getD []) = 1 := by kernel_rfl) (hop : (sortS op != 4) = true := by kernel_rfl)
  (h3 : ∀ nm sa, (F nm sa).size ≤ sa.size + nm.size + 60 := by intro nm sa; (try simp only [ByteArray.size_append, zl0, zl1, zl2, zl3, zl4, zl5, zl6, zl7, zl8, zl9, zl10, zl11, zl12, zl13, zl14, zl15, zl16, zl17, zl18, zl19, zl20, zl21, zl22, zl23, zl24, zl25, zl26, zl27, zl28, zl29, zl30, zl31, zl32, zl33, zl34, zl35, zl36, zl37, zl38, zl39, zl40, zl41, zl42, zl43, zl44, zl45, zl46, zl47, zl48, zl49, zl50, zl51, zl52, zl53, zl54, zl55, zl56, zl57, zl58, zl59, zl60, zl61, zl62]); omega) : AL op := by
 intro nm r ks d fd fl h hz ih
 obtain ⟨hn, hp, hm, _⟩ := facts h
 rw [sortsC_eq h10 h54] at hm
 unfold sorts01 at hk
 split at hk
 ·next he =>
  obtain ⟨x, hx⟩ := List.length_eq_one_iff.1 hk
  rw [hx] at hm he
  obtain ⟨a, rfl, ha⟩ := one_kid hm
  exact good1 h1 h2 h3 (bne_iff_ne.1 hop) hn hp hz (ne4 ha (bne_iff_ne.1 (List.all_eq_true.1 he x (List.mem_cons_self ..)))) (ih a (List.mem_cons_self ..))
 ·cases hk
theorem lal2 {F : ByteArray → ByteArray → ByteArray → ByteArray} (h1 : SH2 op F) (h2 : TR2 op F) (h10 : (op == 10 || op == 37) = false := by kernel_rfl) (h54 : (op == 54) = false := by kernel_rfl) (hk : sorts01 ((sortsS op).getD []) = 2 := by kernel_rfl) (hop : (sortS op != 4) = true := by kernel_rfl)
  (h3 : ∀ nm sa sb, (F nm sa sb).size ≤ sa.size + sb.size + nm.size + 60 := by intro nm sa sb; (try simp only [ByteArray.size_append, zl0, zl1, zl2, zl3, zl4, zl5, zl6, zl7, zl8, zl9, zl10, zl11, zl12, zl13, zl14, zl15, zl16, zl17, zl18, zl19, zl20, zl21, zl22, zl23, zl24, zl25, zl26, zl27, zl28, zl29, zl30, zl31, zl32, zl33, zl34, zl35, zl36, zl37, zl38, zl39, zl40, zl41, zl42, zl43, zl44, zl45, zl46, zl47, zl48, zl49, zl50, zl51, zl52, zl53, zl54, zl55, zl56, zl57, zl58, zl59, zl60, zl61, zl62]); omega) : AL op := by
 intro nm r ks d fd fl h hz ih
 obtain ⟨hn, hp, hm, _⟩ := facts h
 rw [sortsC_eq h10 h54] at hm
 unfold sorts01 at hk
 split at hk
 ·next he =>
  obtain ⟨x, y, hx⟩ : ∃ x y, (sortsS op).getD [] = [x, y] := by
   match (sortsS op).getD [], hk with
   | [x, y], _ => exact ⟨x, y, rfl⟩
  rw [hx] at hm he
  obtain ⟨a, b, rfl, ha, hb⟩ := two_kids hm
  exact good2 h1 h2 h3 (bne_iff_ne.1 hop) hn hp hz (ne4 ha (bne_iff_ne.1 (List.all_eq_true.1 he x (List.mem_cons_self ..)))) (ih a (List.mem_cons_self ..)) (ne4 hb (bne_iff_ne.1 (List.all_eq_true.1 he y (List.mem_cons_of_mem _ (List.mem_cons_self ..))))) (ih b (List.mem_cons_of_mem _ (List.mem_cons_self ..)))
 ·cases hk
theorem lalS {F : ByteArray → ByteArray} {G : ByteArray → ByteArray → ByteArray} (h1 : SH0 op F) (h2 : TR0 op F) (g1 : SH1 op G) (g2 : TR1 op G) (h10 : (op == 10 || op == 37) = true := by kernel_rfl) (hop : (sortS op != 4) = true := by kernel_rfl)
  (h3 : ∀ nm, (F nm).size ≤ nm.size + 60 := by intro nm; (try simp only [ByteArray.size_append, zl0, zl1, zl2, zl3, zl4, zl5, zl6, zl7, zl8, zl9, zl10, zl11, zl12, zl13, zl14, zl15, zl16, zl17, zl18, zl19, zl20, zl21, zl22, zl23, zl24, zl25, zl26, zl27, zl28, zl29, zl30, zl31, zl32, zl33, zl34, zl35, zl36, zl37, zl38, zl39, zl40, zl41, zl42, zl43, zl44, zl45, zl46, zl47, zl48, zl49, zl50, zl51, zl52, zl53, zl54, zl55, zl56, zl57, zl58, zl59, zl60, zl61, zl62]); omega) (g3 : ∀ nm sa, (G nm sa).size ≤ sa.size + nm.size + 60 := by intro nm sa; (try simp only [ByteArray.size_append, zl0, zl1, zl2, zl3, zl4, zl5, zl6, zl7, zl8, zl9, zl10, zl11, zl12, zl13, zl14, zl15, zl16, zl17, zl18, zl19, zl20, zl21, zl22, zl23, zl24, zl25, zl26, zl27, zl28, zl29, zl30, zl31, zl32, zl33, zl34, zl35, zl36, zl37, zl38, zl39, zl40, zl41, zl42, zl43, zl44, zl45, zl46, zl47, zl48, zl49, zl50, zl51, zl52, zl53, zl54, zl55, zl56, zl57, zl58, zl59, zl60, zl61, zl62]); omega) : AL op := by
 intro nm r ks d fd fl h hz ih
 obtain ⟨hn, hp, hm, hst, _⟩ := facts h
 unfold stC at hst
 unfold sortsC at hm
 rw [NodeA.op_mk, h10] at hst hm
 have hl : ks.length ≤ 1 := of_decide_eq_true hst
 have hm : (ks.map fun x => sortS x.op) = List.replicate ks.length 1 := hm
 match ks, hl, hm, ih, hz with
 | [], _, _, _, _ => exact good0 h1 h2 h3 (bne_iff_ne.1 hop) hn hp
 | [a], _, hm, ih, hz => exact good1 g1 g2 g3 (bne_iff_ne.1 hop) hn hp hz (ne4 (show sortS a.op = 1 by simpa using hm) (by decide)) (ih a (List.mem_cons_self ..))
end
theorem al2 : AL 2 := lal0 sh2 tr2 (h3 := fun nm => Nat.le_add_right _ _)
theorem al61 : AL 61 := lal0 sh61 tr61 (h3 := fun nm => Nat.le_add_right _ _)
theorem al3 : AL 3 := lal0 sh3 tr3
theorem al4 : AL 4 := lal1 sh4 tr4
theorem al5 : AL 5 := lal2 sh5 tr5
theorem al6 : AL 6 := lal2 sh6 tr6
theorem al7 : AL 7 := lal2 sh7 tr7
theorem al8 : AL 8 := lal2 sh8 tr8
theorem al9 : AL 9 := lal2 sh9 tr9
theorem al29 : AL 29 := lal2 sh29 tr29
theorem al30 : AL 30 := lal2 sh30 tr30
theorem al31 : AL 31 := lal2 sh31 tr31
theorem al32 : AL 32 := lal2 sh32 tr32
theorem al11 : AL 11 := lal0 sh11 tr11
theorem al38 : AL 38 := lal0 sh38 tr38
theorem al12 : AL 12 := lal1 sh12 tr12
theorem al13 : AL 13 := lal0 sh13 tr13
theorem al20 : AL 20 := lal0 sh20 tr20
theorem al21 : AL 21 := lal0 sh21 tr21
theorem al22 : AL 22 := lal2 sh22 tr22
theorem al23 : AL 23 := lal2 sh23 tr23
theorem al24 : AL 24 := lal2 sh24 tr24
theorem al25 : AL 25 := lal2 sh25 tr25
theorem al26 : AL 26 := lal2 sh26 tr26
theorem al27 : AL 27 := lal2 sh27 tr27
theorem al28 : AL 28 := lal1 sh28 tr28
theorem al33 : AL 33 := lal1 sh33 tr33
theorem al34 : AL 34 := lal1 sh34 tr34
theorem al35 : AL 35 := lal2 sh35 tr35
theorem al36 : AL 36 := lal2 sh36 tr36
theorem al39 : AL 39 := lal1 sh39 tr39
theorem al50 : AL 50 := lal1 sh50 tr50
theorem al51 : AL 51 := lal1 sh51 tr51
theorem al52 : AL 52 := lal0 sh52 tr52
theorem al53 : AL 53 := lal1 sh53 tr53
theorem al57 : AL 57 := lal2 sh57 tr57
theorem al58 : AL 58 := lal2 sh58 tr58
theorem al59 : AL 59 := lal1 sh59 tr59
theorem al60 : AL 60 := lal1 sh60 tr60
theorem al62 : AL 62 := lal0 sh62 tr62
theorem al10 : AL 10 := lalS sh10_0 tr10_0 sh10_1 tr10_1
theorem al37 : AL 37 := lalS sh37_0 tr37_0 sh37_1 tr37_1
end Go.Proofs.YtemjeommnpocnaaGreat
namespace Go.Proofs.YtemjeommnpocnaaGreat
open Go Go.Iso Go.Proofs
set_option linter.unusedSimpArgs false
set_option linter.unusedVariables false
set_option maxRecDepth 100000
/-! ### Numbers, equations, flows -/
theorem strOf_len {zs : List Int} : (strOfNums zs).size = zs.length := by
 unfold strOfNums ByteArray.size
 simp
theorem strOf_bytesL {s : ByteArray} : strOfNums (bytesL s) = s := by
 cases s with
 | mk a =>
  unfold strOfNums bytesL
  congr 1
  rw [← Array.toList_inj, List.map_map]
  show a.toList.map _ = a.toList
  refine List.map_id'' (fun b => ?_) _
  show UInt8.ofNat ((b.toNat : Int).toNat) = b
  rw [Int.toNat_natCast, UInt8.ofNat_toNat]
def numT (p : List Int) : ByteArray := if p = [] then ⟨#[48]⟩ else strOfNums (digL (wv p).toNat)
theorem numT_size {p : List Int} (h : NW p) (hl : p.length ≤ 20) : 0 < (numT p).size ∧ (numT p).size ≤ 200 := by
 unfold numT
 by_cases h0 : p = []
 ·rw [if_pos h0]; decide
 ·rw [if_neg h0, strOf_len]
  have h1 := wv_pos h.1 h0 h.2
  have h2 := wv_lt h.1
  refine ⟨digL_ne (by omega), digL_lt ?_⟩
  have h3 := wv_le hl
  have h4 : (4294967296 : Int) ^ 20 ≤ ((10 ^ 200 : Nat) : Int) := by decide +kernel
  generalize (10 ^ 200 : Nat) = t at h4 ⊢
  omega
theorem al1 {nm : ByteArray} {r : RatA} {ks : List NodeA} {d fd fl : Bool} (h : okS (.mk 1 nm r ks) d fd fl = true) (hw : r.words) : All (.mk 1 nm r ks) := by
 obtain ⟨hn, hp, hk, _, hc⟩ := facts h
 rw [sortsC_eq (by kernel_rfl) (by kernel_rfl), show (sortsS 1).getD [] = [] from by kernel_rfl] at hk
 obtain rfl := no_kids hk
 have hc : natS r = true := hc
 unfold natS at hc
 simp only [Bool.and_eq_true, Bool.not_eq_true', beq_iff_eq, decide_eq_true_eq] at hc
 obtain ⟨⟨⟨c1, c2⟩, c3⟩, c4⟩ := hc
 have hlast : r.num.getLast? ≠ some 0 := fun e => by rw [e] at c4; simp at c4
 have hNW : NW r.num := ⟨hw.1, hlast⟩
 obtain ⟨s1, s2⟩ := numT_size hNW c3
 obtain ⟨k1, q, hq, h1⟩ := Text_ev hw.1 (by omega) c1 c2 hlast
 obtain ⟨k2, q2, hq2, h2⟩ := nat_Text_ev hNW c3
 have hq : q = numT r.num := hq
 have hq2 : q2.1 = numT r.num := hq2
 subst hq
 refine ⟨k1 + k2 + 5, numT r.num, fun K hK => ⟨fun i hi => ?_, ?_, ?_⟩⟩
 ·obtain ⟨i, rfl⟩ : ∃ i', i = i' + 1 := ⟨i - 1, by rw [nsz0] at hi; omega⟩
  rw [iter_succ]
  unfold r09_show_body
  have h1 := h1 K (by simp only [id]; omega)
  generalize r02_Text = T at h1 ⊢
  rw [if_pos (by rfl)]
  obtain ⟨x, e1, e2⟩ := obind h1
  exact ob _ e1 (ob _ e2 rfl)
 ·rw [NodeA.op_mk, if_neg (ne4 (show sortS 1 = 1 from by kernel_rfl) (by decide)), nsz0]
  intro i hi x hx
  obtain ⟨i, rfl⟩ : ∃ i', i = i' + 4 := ⟨i - 4, by omega⟩
  rw [g_tree]; unfold text_printer_tree_body
  refine ob _ (show text_signs K (NodeA.mk 1 nm r []).op = some ⟨#[]⟩ from rfl) ?_
  rw [empT, if_neg Bool.false_ne_true]
  refine ob _ tree_Sort_eq ?_
  simp only [NodeA.op_mk, show sortS 1 = 1 from by kernel_rfl, Int.reduceBEq, Bool.false_eq_true, if_false, if_true]
  refine ob _ ?_ rfl
  rw [g_term]; unfold text_printer_term_body
  rw [NodeA.op_mk, if_pos (by rfl)]
  refine ob _ (h2 K (by simp only [id]; omega)) ?_
  rw [hq2]
  exact ob _ (put1 (by omega) (.inr s1) (by omega)) rfl
 ·rw [nsz0]; omega
theorem al55 {nm : ByteArray} {r : RatA} {ks : List NodeA} {d fd fl : Bool} (h : okS (.mk 55 nm r ks) d fd fl = true) (hz : (NodeA.mk 55 nm r ks).size ≤ 4000) (ih : ∀ k ∈ ks, All k) : All (.mk 55 nm r ks) := by
 obtain ⟨hn, hp, hk, _⟩ := facts h
 have hp := hp (by kernel_rfl)
 rw [sortsC_eq (by kernel_rfl) (by kernel_rfl), show (sortsS 55).getD [] = [1] from by kernel_rfl] at hk
 obtain ⟨a, rfl, ha⟩ := one_kid hk
 obtain ⟨k, sa, hg⟩ := ih a (List.mem_cons_self ..)
 refine ⟨k + 5, (nm ++ (⟨#[39, 32, 61, 32]⟩ : ByteArray)) ++ sa, fun K hK => ?_⟩
 obtain ⟨a1, a2, a3⟩ := hg K (by omega)
 rw [if_neg (ne4 ha (by decide))] at a2
 rw [nsz1] at hz
 refine ⟨fun i hi => ?_, ?_, ?_⟩
 ·obtain ⟨i, rfl⟩ : ∃ i', i = i' + 1 := ⟨i - 1, by rw [nsz1] at hi; omega⟩
  rw [iter_succ]; exact sh55 (a1 i (by rw [nsz1] at hi; omega)) a3 (by omega)
 ·rw [NodeA.op_mk, if_pos (show sortS 55 = 4 from by kernel_rfl), nsz1]
  refine ⟨hp, .inr ⟨by rw [NodeA.op_mk]; decide, a, sa, _, rfl, a2.mono (by omega) (Nat.le_refl _), a3, rfl, ?_⟩⟩
  rw [NodeA.name_mk]; omega
 ·rw [nsz1, ByteArray.size_append, ByteArray.size_append, zc6]; omega
theorem al56 {nm : ByteArray} {r : RatA} {ks : List NodeA} {d fd fl : Bool} (h : okS (.mk 56 nm r ks) d fd fl = true) : All (.mk 56 nm r ks) := by
 obtain ⟨hn, hp, hk, _⟩ := facts h
 have hp := hp (by kernel_rfl)
 rw [sortsC_eq (by kernel_rfl) (by kernel_rfl), show (sortsS 56).getD [] = [] from by kernel_rfl] at hk
 obtain rfl := no_kids hk
 refine ⟨5, nm ++ (⟨#[46, 46]⟩ : ByteArray), fun K hK => ⟨fun i hi => ?_, ?_, ?_⟩⟩
 ·obtain ⟨i, rfl⟩ : ∃ i', i = i' + 1 := ⟨i - 1, by rw [nsz0] at hi; omega⟩
  rw [iter_succ]; exact sh56 (by omega)
 ·rw [NodeA.op_mk, if_pos (show sortS 56 = 4 from by kernel_rfl), nsz0]
  refine ⟨hp, .inl ⟨by rw [NodeA.op_mk], rfl, ?_⟩⟩
  rw [NodeA.name_mk]; omega
 ·rw [nsz0, ByteArray.size_append, zc5]; omega
theorem pick : ∀ (ks : List NodeA), (∀ k ∈ ks, All k) → ∃ K0, ∃ t : Nat → ByteArray, ∀ K, K0 ≤ K → ∀ i (hi : i < ks.length), Good K ks[i] (t i)
 | [], _ => ⟨0, fun _ => ⟨#[]⟩, fun K _ i hi => absurd hi (by simp)⟩
 | k :: ks, h => by
  obtain ⟨k0, s, h0⟩ := h k (List.mem_cons_self ..)
  obtain ⟨k1, t, h1⟩ := pick ks fun x hx => h x (List.mem_cons_of_mem _ hx)
  refine ⟨k0 + k1, fun i => match i with | 0 => s | i + 1 => t i, fun K hK i hi => ?_⟩
  match i, hi with
  | 0, _ => exact h0 K (by omega)
  | i + 1, hi => exact h1 K (by omega) i (by simpa using hi)
theorem EqT.mono {K i j w : Nat} {e : NodeA} {t : ByteArray} (h : EqT K j e t w) (hi : j ≤ i) : EqT K i e t w := by
 obtain ⟨h0, h | ⟨h1, a, sa, wa, h2, h3, h4⟩⟩ := h
 ·exact ⟨h0, .inl h⟩
 ·exact ⟨h0, .inr ⟨h1, a, sa, wa, h2, h3.mono hi (Nat.le_refl _), h4⟩⟩
def wF (ks : List NodeA) (i : Nat) : Nat := 300 * ((ks[i]?).map NodeA.size).getD 0 - 2
theorem WT_le (ks : List NodeA) : ∀ m, m ≤ ks.length → WT (wF ks) m ≤ 1 + 300 * ((ks.take m).map NodeA.size).sum
 | 0, _ => by rw [WT]; omega
 | m + 1, h => by
  have := WT_le ks m (by omega)
  have e : ks[m]? = some (ks[m]'(by omega)) := List.getElem?_eq_getElem (by omega)
  have hp := (ks[m]'(by omega)).size_pos
  rw [WT, sum_take e]
  unfold wF at this ⊢
  rw [e]
  simp only [Option.map_some, Option.getD_some]
  omega
theorem al54 {nm : ByteArray} {r : RatA} {ks : List NodeA} {d fd fl : Bool} (h : okS (.mk 54 nm r ks) d fd fl = true) (hz : (NodeA.mk 54 nm r ks).size ≤ 4000) (ih : ∀ k ∈ ks, All k) : All (.mk 54 nm r ks) := by
 obtain ⟨hn, hp, hk, hst, _⟩ := facts h
 have hst : (decide (2 ≤ ks.length) && (List.range (ks.length - 1)).all (flowK ks)) = true := hst
 rw [Bool.and_eq_true, decide_eq_true_eq] at hst
 have hk : (ks.map fun x => sortS x.op) = List.replicate (ks.length - 1) 4 ++ [2] := hk
 obtain ⟨m, hm⟩ : ∃ m, ks.length = m + 1 := ⟨ks.length - 1, by omega⟩
 have hlt := NodeA.kids_lt (NodeA.mk 54 nm r ks)
 rw [NodeA.kids_mk] at hlt
 have hs4 : ∀ i (hi : i < m), sortS (ks[i]'(by omega)).op = 4 := fun i hi => by
  have : (ks.map fun x => sortS x.op)[i]? = some 4 := by
   rw [hk, hm, Nat.add_sub_cancel, List.getElem?_append_left (by simpa using hi), List.getElem?_replicate, if_pos hi]
  rw [List.getElem?_map, List.getElem?_eq_getElem (by omega)] at this
  simpa using this
 have hs2 : sortS (ks[m]'(by omega)).op = 2 := by
  have : (ks.map fun x => sortS x.op)[m]? = some 2 := by
   rw [hk, hm, Nat.add_sub_cancel, List.getElem?_append_right (by simp)]; simp
  rw [List.getElem?_map, List.getElem?_eq_getElem (by omega)] at this
  simpa using this
 obtain ⟨k0, t, hg⟩ := pick ks ih
 have hsz : (NodeA.mk 54 nm r ks).size = 1 + ((ks.take m).map NodeA.size).sum + (ks[m]'(by omega)).size := by
  have := sum_take (f := NodeA.size) (show ks[m]? = some (ks[m]'(by omega)) from List.getElem?_eq_getElem (by omega))
  rw [List.take_of_length_le (by omega)] at this
  rw [NodeA.size_mk, this]; omega
 have hW := WT_le ks m (by omega)
 have hlt2 : ∀ i (hi : i < ks.length), ks[i].size ≤ (NodeA.mk 54 nm r ks).size - 1 := fun i hi => by
  have := NodeA.size_lt (n := NodeA.mk 54 nm r ks) (show ks[i] ∈ ks from List.getElem_mem hi); omega
 refine ⟨k0 + 5000, ((FT t m ++ (⟨#[32, 38, 32]⟩ : ByteArray)) ++ t m) ++ (⟨#[125]⟩ : ByteArray), fun K hK => ?_⟩
 have hg := hg K (by omega)
 have hE : ∀ i (hi : i < m), EqT K (4 * ((NodeA.mk 54 nm r ks).size - 1)) (ks[i]'(by omega)) (t i) (wF ks i) := fun i hi => by
  have h1 := (hg i (by omega)).2.1
  rw [if_pos (hs4 i hi)] at h1
  have hl := hlt2 i (by omega)
  have hw : wF ks i = 300 * (ks[i]'(by omega)).size - 2 := by
   unfold wF; rw [List.getElem?_eq_getElem (show i < ks.length by omega)]; rfl
  rw [hw]
  exact h1.mono (by omega)
 have hw : ∀ i, i < m → (t i).size ≤ wF ks i := fun i hi => (hE i hi).size
 obtain ⟨f1, f2, f3⟩ := hg m (by omega)
 rw [if_neg (ne4 hs2 (by decide))] at f2
 have hl := hlt2 m (by omega)
 have hpos := NodeA.size_pos (NodeA.mk 54 nm r ks)
 refine ⟨fun i hi => ?_, ?_, ?_⟩
 ·obtain ⟨i, rfl⟩ : ∃ i', i = i' + 1 := ⟨i - 1, by omega⟩
  rw [iter_succ]
  exact sh54 (w := wF ks) (wf := 300 * (ks[m]'(by omega)).size) hm (by omega) (fun q hq => (hg q (by omega)).1 i (by have := hlt2 q (by omega); omega)) hw (f1 i (by omega)) f3 (by omega) (by omega)
 ·rw [NodeA.op_mk, if_neg (ne4 (show sortS 54 = 3 from by kernel_rfl) (by decide)), show 4 * (NodeA.mk 54 nm r ks).size = 4 * ((NodeA.mk 54 nm r ks).size - 1) + 4 by omega]
  exact tr54 (w := wF ks) (wf := 300 * (ks[m]'(by omega)).size) (by omega) hm (by omega) hE (f2.mono (by omega) (Nat.le_refl _)) f3 (by omega) (by omega)
 ·have hF := FT_size hw m (Nat.le_refl _)
  rw [ByteArray.size_append, ByteArray.size_append, ByteArray.size_append, zc3, zc4]; omega
theorem ops_all : ((List.range 63).all fun k => sortS (k : Int) == 0 || [1, 2, 3, 4, 5, 6, 7, 8, 9, 10, 11, 12, 13, 20, 21, 22, 23, 24, 25, 26, 27, 28, 29, 30, 31, 32, 33, 34, 35, 36, 37, 38, 39, 50, 51, 52, 53, 54, 55, 56, 57, 58, 59, 60, 61, 62].contains k) = true := by kernel_rfl
theorem all_ok : ∀ (n : NodeA) (d fd fl : Bool), okS n d fd fl = true → sortS n.op ≠ 0 → n.words → n.size ≤ 4000 → All n := by
 intro n
 induction n using NodeA.ind with
 | h n ih =>
 intro d fd fl hok hs hw hz
 have hks : ∀ k ∈ n.kids, All k := fun k hk => by
  have h1 := hok
  rw [okS_eq] at h1
  simp only [Bool.and_eq_true, List.all_eq_true] at h1
  refine ih k hk _ _ _ (h1.2.2.2.2.1 k hk) ?_ (NodeA.words_kid hw hk) (by have := NodeA.size_lt hk; omega)
  have h2 := eq_of_beq h1.2.2.2.1
  have hm : sortS k.op ∈ sortsC n := by rw [← h2]; exact List.mem_map_of_mem (f := fun x => sortS x.op) hk
  intro e
  rw [e] at hm
  unfold sortsC at hm
  split at hm
  ·have := (List.mem_replicate.1 hm).2; cases this
  ·split at hm
   ·rcases List.mem_append.1 hm with hm | hm
    ·have := (List.mem_replicate.1 hm).2; cases this
    ·have := List.mem_singleton.1 hm; cases this
   ·exact (tab hs).2.2.2.2.2.2.2 0 hm rfl
 obtain ⟨q, hq, he⟩ := sort_range hs
 have hl := List.all_eq_true.1 ops_all q (List.mem_range.2 hq)
 rw [← he] at hl
 rw [beq_eq_false_iff_ne.2 hs, Bool.false_or] at hl
 have hwn := NodeA.words_num hw
 obtain ⟨op, nm, r, ks⟩ := n
 rw [NodeA.op_mk] at he
 rw [NodeA.kids_mk] at hks
 rw [NodeA.num_mk] at hwn
 subst he
 simp only [List.contains_eq_mem, List.mem_cons, List.not_mem_nil, or_false, decide_eq_true_eq] at hl
 rcases hl with rfl | rfl | rfl | rfl | rfl | rfl | rfl | rfl | rfl | rfl | rfl | rfl | rfl | rfl | rfl | rfl | rfl | rfl | rfl | rfl | rfl | rfl | rfl | rfl | rfl | rfl | rfl | rfl | rfl | rfl | rfl | rfl | rfl | rfl | rfl | rfl | rfl | rfl | rfl | rfl | rfl | rfl | rfl | rfl | rfl | rfl
 ·exact al1 hok hwn
 ·exact al2 hok hz hks
 ·exact al3 hok hz hks
 ·exact al4 hok hz hks
 ·exact al5 hok hz hks
 ·exact al6 hok hz hks
 ·exact al7 hok hz hks
 ·exact al8 hok hz hks
 ·exact al9 hok hz hks
 ·exact al10 hok hz hks
 ·exact al11 hok hz hks
 ·exact al12 hok hz hks
 ·exact al13 hok hz hks
 ·exact al20 hok hz hks
 ·exact al21 hok hz hks
 ·exact al22 hok hz hks
 ·exact al23 hok hz hks
 ·exact al24 hok hz hks
 ·exact al25 hok hz hks
 ·exact al26 hok hz hks
 ·exact al27 hok hz hks
 ·exact al28 hok hz hks
 ·exact al29 hok hz hks
 ·exact al30 hok hz hks
 ·exact al31 hok hz hks
 ·exact al32 hok hz hks
 ·exact al33 hok hz hks
 ·exact al34 hok hz hks
 ·exact al35 hok hz hks
 ·exact al36 hok hz hks
 ·exact al37 hok hz hks
 ·exact al38 hok hz hks
 ·exact al39 hok hz hks
 ·exact al50 hok hz hks
 ·exact al51 hok hz hks
 ·exact al52 hok hz hks
 ·exact al53 hok hz hks
 ·exact al54 hok hz hks
 ·exact al55 hok hz hks
 ·exact al56 hok
 ·exact al57 hok hz hks
 ·exact al58 hok hz hks
 ·exact al59 hok hz hks
 ·exact al60 hok hz hks
 ·exact al61 hok hz hks
 ·exact al62 hok hz hks
end Go.Proofs.YtemjeommnpocnaaGreat
namespace Go.Proofs.YtemjeommnpocnaaGreat
open Go Go.Iso Go.Proofs
set_option linter.unusedSimpArgs false
set_option linter.unusedVariables false
set_option maxRecDepth 100000
theorem print_ev {n : NodeA} (hb : n.size ≤ big) (hw : n.words) : ∃ K0 r, ∀ K, K0 ≤ K → text_Print K n = some r ∧ r09_Print K n = some r := by
 have hB : big = 1099511627776 := rfl
 by_cases hs : (sortS n.op == 0 || sortS n.op == 4) = true
 ·refine ⟨0, (⟨#[]⟩, 80), fun K hK => ?_⟩
  unfold text_Print r09_Print
  rw [tree_Sort_eq, r08_Sort_eq, bs, bs]
  rw [Bool.or_eq_true, beq_iff_eq, beq_iff_eq] at hs
  rcases hs with hs | hs <;> rw [hs] <;> exact ⟨rfl, rfl⟩
 ·have hs' : (sortS n.op == 0) = false ∧ (sortS n.op == 4) = false := by
   rwa [Bool.not_eq_true, Bool.or_eq_false_iff] at hs
  by_cases hc : checkS n (sortS n.op) = 0
  ·have h0 : sortS n.op ≠ 0 := beq_eq_false_iff_ne.1 hs'.1
   have h4 : sortS n.op ≠ 4 := beq_eq_false_iff_ne.1 hs'.2
   have hok : okS n false false false = true ∧ n.size ≤ 4000 := by
    unfold checkS at hc
    split at hc
    ·cases hc
    ·split at hc
     ·next hz =>
      rw [Bool.and_eq_true, decide_eq_true_eq] at hz
      split at hc
      ·cases hc
      ·split at hc
       ·cases hc
       ·next h2 => exact ⟨by simpa using h2, by omega⟩
     ·cases hc
   obtain ⟨K0, s, hg⟩ := all_ok n _ _ _ hok.1 h0 hw hok.2
   refine ⟨K0 + 4 * n.size + 20, (s, 0), fun K hK => ?_⟩
   obtain ⟨g1, g2, g3⟩ := hg K (by omega)
   rw [if_neg h4] at g2
   have e1 : text_show K none n = some (some (bytesL s)) := by
    unfold text_show
    refine ob _ (show text_printer_tree K ⟨none⟩ n = some ⟨some (bytesL s)⟩ from ?_) rfl
    have := g2 K (by omega) none (by simp only [Option.getD_none, List.length_nil]; omega)
    exact this
   have e2 : r09_show K n = some s := g1 K (by omega)
   unfold text_Print r09_Print
   rw [tree_Sort_eq, r08_Sort_eq, bs, bs, hs'.1, hs'.2]
   simp only [Bool.false_eq_true, if_false, bs, Out.fin_go]
   rw [tree_Check_eq (by omega) (by omega) hb, r08_Check_eq (by omega) (by omega) hb hw, hc, bs, bs, e1, e2, bs, bs, Option.getD_some, strOf_bytesL]
   exact ⟨rfl, rfl⟩
  ·refine ⟨2 * n.size + 20, (⟨#[]⟩, checkS n (sortS n.op)), fun K hK => ?_⟩
   unfold text_Print r09_Print
   rw [tree_Sort_eq, r08_Sort_eq, bs, bs, hs'.1, hs'.2]
   simp only [Bool.false_eq_true, if_false, bs, Out.fin_go]
   rw [tree_Check_eq (by omega) (by omega) hb, r08_Check_eq (by omega) (by omega) hb hw, bs, bs, bne_iff_ne.2 hc]
   exact ⟨rfl, rfl⟩
theorem awake_at (k : Nat) : law09_awake (k + 200) = some true := by kernel_rfl
theorem TextPrints_law {n : NodeA} (hb : n.size ≤ big) (hw : n.words) : ∃ K, law09_TextPrints K n = some true := by
 obtain ⟨K0, r, h⟩ := print_ev hb hw
 refine ⟨K0 + n.size + 200, ?_⟩
 obtain ⟨h1, h2⟩ := h (K0 + n.size + 200) (by omega)
 unfold law09_TextPrints
 rw [awake_at, bs, r08_Size_eq (by omega) hb, bs, h1, h2, bs, bs]
 simp only [Bool.not_true, Bool.false_eq_true, if_false]
 split
 ·rfl
 ·rw [if_pos (beq_self_eq_true _), beq_self_eq_true]
end Go.Proofs.YtemjeommnpocnaaGreat
