/- Part of the proof of a law: contracts of the functions that the law reaches, or plain laws of them, out of the abstract layer (the texts YtphmckfokdkecaaGreatIso..). No condition. -/
import Derived.Test.YtphmckfokdkecaaGreatIsoY
import Derived.Test.YtphmckfokdkecaaGreatRows
import Derived.Test.YtphmckfokdkecaaGreatW
import Derived.Lib.SmallJoins
import Derived.Deep.Strs
import Derived.Test.YtphmckfokdkecaaGreatPb
import Derived.KernelRfl
namespace Go.Proofs.YtphmckfokdkecaaGreat
open Go Go.Iso Go.Proofs Go.RowKit Go.ChangeShapes Go.WideShapes Go.ChangeAt
set_option linter.unusedVariables false
set_option linter.unusedSimpArgs false
set_option maxRecDepth 100000
/-! ### Trees as they are read -/
theorem u32_wf {z : Int} (h : (Lit.int .u32 z).wf = true) : 0 ≤ z ∧ z < 4294967296 := by
 simp [Lit.wf, IntKind.min, IntKind.max, IntKind.signed, IntKind.bits] at h; omega
theorem words_rep {H : Type} {enc : TypeId × Value → H} {W : World} {fuel : Nat} {cs : List Value} {x : DataW H × List MemPlace} (h : DataW.trod enc Tryz.prog W 0 (fun _ => true) true fuel 22 cs = some x) :
  ∃ (l : List Int) (c : Value), cs = [c] ∧ RepD (there W) W (slD u32V l) c ∧ ∀ z ∈ l, 0 ≤ z ∧ z < 4294967296 := by
 obtain ⟨l, c, h1, h2, h3⟩ := slice_rep u32V (s := 1) Tryz.underlying22 (by kernel_rfl) (by omega) (fun _ => rfl) (fun z _ => 0 ≤ z ∧ z < 4294967296) (fun n cs' y _ hy => by
  obtain ⟨z, h1, h2⟩ := int_cell Tryz.underlying64 hy
  exact ⟨z, h1, u32_wf h2⟩) h
 refine ⟨l, c, h1, h2, fun z hz => ?_⟩
 rcases h3 with ⟨_, rfl⟩ | ⟨ys, rest, _, hl, hq⟩
 ·cases hz
 ·obtain ⟨i, hi, rfl⟩ := List.mem_iff_getElem.1 hz
  exact hq i hi (by omega)
theorem rat_rep {H : Type} {enc : TypeId × Value → H} {W : World} {fuel : Nat} {cs : List Value} {x : DataW H × List MemPlace} (h : DataW.trod enc Tryz.prog W 0 (fun _ => true) true fuel 24 cs = some x) :
  ∃ r : RatA, RowRep W r.enc cs ∧ r.words := by
 obtain ⟨y0, y1, y2, n, rfl, hl, h0, h1, h2⟩ := Go.Deep.trod_struct3 Tryz.underlying24 h
 have hc : Tryz.prog.cellsOf 24 = 3 := by kernel_rfl
 have hc4 : Tryz.prog.cellsOf 4 = 1 := by kernel_rfl
 have hc36 : Tryz.prog.cellsOf 22 = 1 := by kernel_rfl
 rw [hc] at hl
 match cs, hl with
 | [u, v, w], _ =>
  simp only [hc4, hc36, List.drop_zero, List.take_succ_cons, List.take_zero, List.drop_succ_cons] at h0 h1 h2
  obtain ⟨b, e0, _⟩ := DataW.trod_bool Tryz.underlying4 h0
  obtain ⟨l1, c1, e1, r1, w1⟩ := words_rep h1
  obtain ⟨l2, c2, e2, r2, w2⟩ := words_rep h2
  cases e0; cases e1; cases e2
  refine ⟨⟨b, l1, l2⟩, ⟨rfl, fun j hj => ?_⟩, w1, w2⟩
  match j, hj with
  | 0, _ => exact .val _ rfl
  | 1, _ => exact r1
  | 2, _ => exact r2
theorem bulk_slice {H : Type} {ys rest : List (DataW H)} : Rows.uptoBulk (.slice ys rest) = Rows.uptoBulkAll ys + Rows.uptoBulkAll rest + 1 := by rw [Rows.uptoBulk]
theorem bulk_ge {H : Type} : ∀ {l : List NodeA} {ys : List (DataW H)}, l.length = ys.length → (∀ i (h1 : i < l.length) (h2 : i < ys.length), l[i].size ≤ Rows.uptoBulk ys[i]) → (l.map NodeA.size).sum ≤ Rows.uptoBulkAll ys
 | [], _, _, _ => by simp
 | x :: l, [], h, _ => by simp at h
 | x :: l, y :: ys, h, hq => by
  have h0 := hq 0 (by simp) (by simp)
  have := bulk_ge (l := l) (ys := ys) (by simpa using h) fun i h1 h2 => by
   have := hq (i + 1) (by simpa using h1) (by simpa using h2); simpa using this
  rw [Rows.uptoBulkAll, List.map_cons, List.sum_cons]
  simp at h0; omega
theorem node_row {H : Type} {enc : TypeId × Value → H} {W : World} : ∀ (fuel : Nat) (cs : List Value) (x : DataW H × List MemPlace), DataW.trod enc Tryz.prog W 0 (fun _ => true) true fuel 27 cs = some x →
  ∃ n : NodeA, RowRep W n.enc cs ∧ n.words ∧ n.size ≤ Rows.uptoBulk x.1 := by
 intro fuel
 induction fuel using Nat.strongRecOn with
 | _ fuel ih =>
  intro cs x h
  obtain ⟨xs, n, hfu, rfl, hl, hlen, hfs⟩ := DataW.trod_struct Tryz.underlying27 h
  have hc : Tryz.prog.cellsOf 27 = 6 := by kernel_rfl
  have hc1 : Tryz.prog.cellsOf 3 = 1 := by kernel_rfl
  have hc2 : Tryz.prog.cellsOf 9 = 1 := by kernel_rfl
  have hc3 : Tryz.prog.cellsOf 24 = 3 := by kernel_rfl
  have hc4 : Tryz.prog.cellsOf 25 = 1 := by kernel_rfl
  rw [hc] at hl
  match xs, hlen with
  | [y0, y1, y2, y3], _ =>
  match cs, hl with
  | [u0, u1, u2, u3, u4, u5], _ =>
   have h0 := hfs 0 _ rfl
   have h1 := hfs 1 _ rfl
   have h2 := hfs 2 _ rfl
   have h3 := hfs 3 _ rfl
   simp only [hc1, hc2, hc3, hc4, List.drop_zero, List.take_succ_cons, List.take_zero, List.drop_succ_cons, List.getElem?_cons_zero, List.getElem?_cons_succ] at h0 h1 h2 h3
   obtain ⟨z, e0, _, _⟩ := DataW.trod_int Tryz.underlying3 h0
   obtain ⟨s, e1, _, hs⟩ := DataW.trod_string Tryz.underlying9 h1
   obtain ⟨r, r2, w2⟩ := rat_rep h2
   obtain ⟨l, c, e3, r3, q3⟩ := slice_rep NodeA.enc (s := 6) Tryz.underlying25 (by kernel_rfl) (by omega) NodeA.enc_len (fun k y => k.words ∧ k.size ≤ Rows.uptoBulk y) (fun m cs' y hm hy => ih m (by omega) cs' y hy) h3
   cases e0; cases e1; cases e3
   refine ⟨.mk z s r l, ⟨by rw [NodeA.enc_mk]; rfl, fun j hj => ?_⟩, ?_, ?_⟩
   ·have hr := r2.2
    have e : (NodeA.mk z s r l).enc = [.val (.int .i64 z), .val (.string s), .val (.bool r.neg), slD u32V r.num, slD u32V r.den, slD NodeA.enc l] := NodeA.enc_mk
    have hj6 : j < 6 := by rw [e] at hj; exact hj
    have key : ∀ (ds : List D), ds = (NodeA.mk z s r l).enc → ∀ hj : j < ds.length, RepD (there W) W ds[j] ([Value.int .i64 z, .string s, u2, u3, u4, u5].getD j undef) := by
     intro ds hd hj
     rw [e] at hd; subst hd
     match j, hj6 with
     | 0, _ => exact .val _ rfl
     | 1, _ => exact .val _ (by rw [maxLen_eq] at hs; simpa [okVal] using hs)
     | 2, _ => exact hr 0 (by simp [RatA.enc])
     | 3, _ => exact hr 1 (by simp [RatA.enc])
     | 4, _ => exact hr 2 (by simp [RatA.enc])
     | 5, _ => exact r3
    exact key _ rfl hj
   ·rw [NodeA.words_mk]
    refine ⟨w2, fun k hk => ?_⟩
    rcases q3 with ⟨_, rfl⟩ | ⟨ys, rest, _, hl3, hq⟩
    ·cases hk
    ·obtain ⟨i, hi, rfl⟩ := List.mem_iff_getElem.1 hk
     exact (hq i hi (by omega)).1
   ·rw [NodeA.size_mk]
    simp only [List.map_cons, List.map_nil]
    rw [Rows.uptoBulk]
    simp only [Rows.uptoBulkAll]
    rcases q3 with ⟨_, rfl⟩ | ⟨ys, rest, e4, hl3, hq⟩
    ·simp
    ·have := bulk_ge hl3 fun i h1 h2 => (hq i h1 h2).2
     rw [e4, bulk_slice]; omega
theorem node_rep {H : Type} {enc : TypeId × Value → H} {W : World} {base : Nat} {v : Value} {d : DataW H} {ps : List MemPlace} (hval : Value.okWide Tryz.prog W .any base 27 v) (h : DataW.Trod enc Tryz.prog W 0 (fun _ => true) true 27 v d ps) :
  ∃ n : NodeA, RepV (fun _ => none) (there W) W (aggV n.enc) v ∧ n.words ∧ n.size ≤ Rows.uptoBulk d := by
 obtain ⟨cs, rfl, hs⟩ := okWide_struct Tryz.underlying27 hval
 obtain ⟨fuel, hf⟩ := h
 obtain ⟨n, h1, h2, h3⟩ := node_row fuel _ _ hf
 obtain ⟨cs⟩ := cs
 refine ⟨n, .agg (by have := h1.1; simp only [Value.cells] at this; simp [this]) fun i hi => ?_, h2, h3⟩
 have := h1.2 i (by simpa using hi)
 simp only [Value.cells] at this
 rw [List.getElem_map]
 refine .d ?_
 simpa [Array.getD_eq_getD_getElem?, List.getD_eq_getElem?_getD] using this
end Go.Proofs.YtphmckfokdkecaaGreat
namespace Go.Proofs.YtphmckfokdkecaaGreat
open Go Go.Iso Go.Proofs
set_option linter.unusedSimpArgs false
set_option linter.unusedVariables false
set_option maxRecDepth 100000
/-! ### Operators -/
def sortS (p0 : Int) : Int :=
 if (decide (1 ≤ p0) && decide (p0 ≤ 13)) then 1 else if (decide (20 ≤ p0) && decide (p0 ≤ 39)) then 2 else if (p0 == 55 || p0 == 56) then 4 else if (decide (50 ≤ p0) && decide (p0 ≤ 62)) then 3 else 0
theorem tree_Sort_eq {K : Nat} {op : Int} : tree_Sort K op = some (sortS op) := by
 unfold tree_Sort sortS; simp only [andO, orO, Option.bind_some, ifOI]
theorem r08_Sort_eq {K : Nat} {op : Int} : r08_Sort K op = some (sortS op) := by
 unfold r08_Sort sortS; simp only [andO, orO, Option.bind_some, ifOI]
theorem sort_range {op : Int} (h : sortS op ≠ 0) : ∃ k : Nat, k < 63 ∧ op = k := by
 refine ⟨op.toNat, ?_, ?_⟩ <;>
 ·have : 1 ≤ op ∧ op ≤ 62 := by
   apply Classical.byContradiction
   intro hc
   apply h
   unfold sortS
   have e1 : (decide (1 ≤ op) && decide (op ≤ 13)) = false := by simp; omega
   have e2 : (decide (20 ≤ op) && decide (op ≤ 39)) = false := by simp; omega
   have e3 : (op == 55 || op == 56) = false := by simp; omega
   have e4 : (decide (50 ≤ op) && decide (op ≤ 62)) = false := by simp; omega
   rw [e1, e2, e3, e4]; rfl
  omega
def namedS (op : Int) : Bool := (tree_shape 0 op).all (·.1)
def sortsS (op : Int) : Option (List Int) := (tree_shape 0 op).bind (·.2)
theorem tree_shape_eq {K : Nat} {op : Int} : tree_shape K op = some (namedS op, sortsS op) := by
 have e : ∃ r, tree_shape 0 op = some r := by
  unfold tree_shape; simp only [andO, orO, orO', Option.bind_some, ifOP, ifOO, outM_eq, finIf, finIf', Out.fin_go, Out.fin_out]
  repeat' (first | exact ⟨_, rfl⟩ | split)
 obtain ⟨r, h⟩ := e
 have e2 : tree_shape K op = tree_shape 0 op := rfl
 unfold namedS sortsS
 rw [e2, h]; rfl
def namB (op : Int) : Bool := (r08_named 0 op).all id
def kidB (op : Int) : ByteArray := (r08_kids 0 op).getD ⟨#[]⟩
theorem r08_named_eq {K : Nat} {op : Int} : r08_named K op = some (namB op) := by
 have e : ∃ r, r08_named 0 op = some r := by
  unfold r08_named; simp only [andO, orO, orO', Option.bind_some]
  repeat' (first | exact ⟨_, rfl⟩ | split)
 obtain ⟨r, h⟩ := e
 have e2 : r08_named K op = r08_named 0 op := rfl
 unfold namB
 rw [e2, h]; rfl
theorem r08_kids_eq {K : Nat} {op : Int} : r08_kids K op = some (kidB op) := by
 have e : ∃ r, r08_kids 0 op = some r := by
  unfold r08_kids; simp only [andO, orO, orO', Option.bind_some, ifOS]
  repeat' (first | exact ⟨_, rfl⟩ | split)
 obtain ⟨r, h⟩ := e
 have e2 : r08_kids K op = r08_kids 0 op := rfl
 unfold kidB
 rw [e2, h]; rfl
def tabB (k : Int) : Bool := sortS k == 0 || (namB k == (namedS k || (k == 10 || k == 37)) && ((kidB k).toList.map (fun c => (c.toNat : Int) - 48) == (sortsS k).getD []) && ((kidB k).toList.all fun c => decide (48 ≤ c.toNat) && decide (c.toNat ≤ 57)) &&
 (!(k == 10 || k == 37 || k == 54) || sortsS k == none && !namedS k) && (!(k == 39) || sortsS k == some [2]) && (!(k == 8 || k == 9) || sortsS k == some [1, 1]) && (!(k == 12) || sortsS k == some [1]) && ((sortsS k).getD []).all (fun s => s != 0))
theorem tab_all : ((List.range 63).all fun k => tabB (k : Int)) = true := by decide +kernel
theorem tab {op : Int} (h : sortS op ≠ 0) : namB op = (namedS op || (op == 10 || op == 37)) ∧ (kidB op).toList.map (fun c => (c.toNat : Int) - 48) = (sortsS op).getD [] ∧ (∀ c ∈ (kidB op).toList, 48 ≤ c.toNat ∧ c.toNat ≤ 57) ∧
  ((op == 10 || op == 37 || op == 54) = true → sortsS op = none ∧ namedS op = false) ∧ (op = 39 → sortsS op = some [2]) ∧ ((op == 8 || op == 9) = true → sortsS op = some [1, 1]) ∧ (op = 12 → sortsS op = some [1]) ∧ (∀ s ∈ (sortsS op).getD [], s ≠ 0) := by
 obtain ⟨k, hk, rfl⟩ := sort_range h
 have := List.all_eq_true.1 tab_all k (List.mem_range.2 hk)
 generalize (k : Int) = op at *
 unfold tabB at this
 have h0 : (sortS op == 0) = false := beq_eq_false_iff_ne.2 h
 rw [h0, Bool.false_or] at this
 simp only [Bool.and_eq_true] at this
 obtain ⟨⟨⟨⟨⟨⟨⟨h1, h2⟩, h3⟩, h4⟩, h5⟩, h6⟩, h7⟩, h8⟩ := this
 refine ⟨eq_of_beq h1, eq_of_beq h2, fun c hc => ?_, fun ho => ?_, fun ho => ?_, fun ho => ?_, fun ho => ?_, fun s hs => ?_⟩
 ·have := List.all_eq_true.1 h3 c hc
  simpa using this
 ·rw [ho] at h4
  simp only [Bool.not_true, Bool.false_or, Bool.and_eq_true, Bool.not_eq_true'] at h4
  exact ⟨eq_of_beq h4.1, h4.2⟩
 ·have : (op == 39) = true := by simp [ho]
  rw [this] at h5; simpa using h5
 ·rw [ho] at h6; simpa using h6
 ·have : (op == 12) = true := by simp [ho]
  rw [this] at h7; simpa using h7
 ·have := List.all_eq_true.1 h8 s hs
  simpa using this
/-! ### Names -/
def letB (z : Int) : Bool := decide (97 ≤ z) && decide (z ≤ 122) || decide (65 ≤ z) && decide (z ≤ 90)
theorem tree_letter_eq {K : Nat} {z : Int} : tree_letter K z = some (letB z) := by
 unfold tree_letter letB
 cases decide (97 ≤ z) <;> cases decide (z ≤ 122) <;> cases decide (65 ≤ z) <;> rfl
theorem r08_letter_eq {K : Nat} {z : Int} : r08_letter K z = some (letB z) := by
 unfold r08_letter letB
 cases decide (97 ≤ z) <;> cases decide (z ≤ 122) <;> cases decide (65 ≤ z) <;> rfl
def digB (z : Int) : Bool := !(decide (z < 48) || decide (57 < z))
abbrev kw (s : ByteArray) : Bool := (s.toList == (⟨#[116, 114, 117, 101]⟩ : ByteArray).toList || (s.toList == (⟨#[102, 97, 108, 115, 101]⟩ : ByteArray).toList || (s.toList == (⟨#[102, 111, 114, 97, 108, 108]⟩ : ByteArray).toList || s.toList == (⟨#[101, 120, 105, 115, 116, 115]⟩ : ByteArray).toList)))
def nameB (s : ByteArray) : Bool :=
 !(((s.size : Int) == 0) || (decide (12 < (s.size : Int)) || kw s)) && (List.range s.size).all fun i => (s[i]?).all fun c => letB c.toNat || !((i : Int) == 0) && digB c.toNat
theorem strAt_get {s : ByteArray} {i : Nat} (h : i < s.size) : strAt s (i : Int) = some s[i] ∧ s[i]? = some s[i] := by
 rw [strAt_nat]; exact ⟨getElem?_pos s i h, getElem?_pos s i h⟩
theorem r08_Name_eq {K : Nat} {s : ByteArray} (hK : 12 < K) : r08_Name K s = some (nameB s) := by
 unfold r08_Name
 simp only [orO, Option.bind_some, outM_eq, finIf, ifOO]
 unfold nameB
 cases hb : (((s.size : Int) == 0) || (decide (12 < (s.size : Int)) || kw s)) with
 | true => simp only [if_true, Bool.not_true, Bool.false_and]
 | false =>
  have hs : s.size ≤ 12 := by
   have : decide (12 < (s.size : Int)) = false := by revert hb; cases decide (12 < (s.size : Int)) <;> cases ((s.size : Int) == 0) <;> simp
   simp at this; omega
  simp only [Bool.false_eq_true, if_false, Bool.not_false, Bool.true_and]
  refine ob _ (scanG s.size (fun i => (i : Int)) (fun i => (s[i]?).all fun c => letB c.toNat || !((i : Int) == 0) && digB c.toNat) false () (fun g i hi => ?_) (fun g => ?_) (by omega) rfl) ?_
  ·obtain ⟨h1, h2⟩ := strAt_get hi
   have hd : decide ((i : Int) < (s.size : Int)) = true := by simp; omega
   simp only [hd, if_true, h1, h2, Option.bind_some, r08_letter_eq, Option.all_some]
   simp only [orO, orO', andO, Option.bind_some, outM_eq]
   rw [w64s (by omega)]
   unfold digB
   cases letB (s[i].toNat : Int) <;> cases ((i : Int) == 0) <;> cases decide ((s[i].toNat : Int) < 48) <;> cases decide (57 < (s[i].toNat : Int)) <;> rfl
  ·have hd : decide ((s.size : Int) < (s.size : Int)) = false := by simp
   simp only [hd, Bool.false_eq_true, if_false]
  ·cases (List.range s.size).all fun i => (s[i]?).all fun c => letB c.toNat || !((i : Int) == 0) && digB c.toNat <;> rfl
theorem tree_Name_eq {K : Nat} {s : ByteArray} (hK : 12 < K) : tree_Name K s = some (nameB s) := by
 unfold tree_Name
 have hkw : ∀ {x y : Option Bool}, (if (s.toList == (⟨#[116, 114, 117, 101]⟩ : ByteArray).toList) = true then x else y) = (if (s.toList == (⟨#[116, 114, 117, 101]⟩ : ByteArray).toList) = true then x else y) := rfl
 simp only [tree_letter_eq, Option.bind_some, orO']
 unfold nameB
 by_cases h0 : s.size = 0
 ·have e : ((s.size : Int) == 0) = true := by simp [h0]
  simp only [e, if_true, Option.bind_some, outM_eq, Out.fin_out, Bool.true_or, Bool.not_true, Bool.false_and]
 have e0 : ((s.size : Int) == 0) = false := int_ne0 h0
 by_cases h1 : 12 < s.size
 ·have e : decide (12 < (s.size : Int)) = true := by simp; omega
  simp only [e0, e, if_true, Bool.false_eq_true, if_false, Option.bind_some, outM_eq, Out.fin_out, Bool.true_or, Bool.or_true, Bool.not_true, Bool.false_and]
 have e1 : decide (12 < (s.size : Int)) = false := by simp; omega
 obtain ⟨g1, g2⟩ := strAt_get (s := s) (i := 0) (by omega)
 have g1' : strAt s 0 = some s[0] := g1
 simp only [e0, e1, Bool.false_eq_true, if_false, g1', Option.bind_some, Bool.false_or]
 cases hl : letB (s[0].toNat : Int) with
 | false =>
  simp only [Bool.not_false, if_true, outM_eq, Option.bind_some, Out.fin_out]
  have : ((List.range s.size).all fun i => (s[i]?).all fun c => letB c.toNat || !((i : Int) == 0) && digB c.toNat) = false := by
   rw [List.all_eq_false]
   refine ⟨0, List.mem_range.2 (by omega), ?_⟩
   rw [g2, Option.all_some, hl]; simp
  rw [this, Bool.and_false]
 | true =>
  simp only [Bool.not_true, Bool.false_eq_true, if_false, Option.bind_some, Out.fin_go]
  refine ob _ (scanG s.size (fun i => (i : Int)) (fun i => (s[i]?).all fun c => letB c.toNat || digB c.toNat) false () (fun g i hi => ?_) (fun g => ?_) (by omega) rfl) ?_
  ·obtain ⟨h1, h2⟩ := strAt_get hi
   have hd : decide ((i : Int) < (s.size : Int)) = true := by simp; omega
   simp only [hd, if_true, h1, h2, Option.bind_some, Option.all_some]
   rw [w64s (by omega)]
   unfold digB
   cases letB (s[i].toNat : Int) <;> cases decide ((s[i].toNat : Int) < 48) <;> cases decide (57 < (s[i].toNat : Int)) <;> rfl
  ·have hd : decide ((s.size : Int) < (s.size : Int)) = false := by simp
   simp only [hd, Bool.false_eq_true, if_false]
  ·have e2 : ((List.range s.size).all fun i => (s[i]?).all fun c => letB c.toNat || digB c.toNat) = (List.range s.size).all fun i => (s[i]?).all fun c => letB c.toNat || !((i : Int) == 0) && digB c.toNat := by
    rw [Bool.eq_iff_iff, List.all_eq_true, List.all_eq_true]
    refine forall_congr' fun i => forall_congr' fun hi => ?_
    obtain ⟨_, h2⟩ := strAt_get (List.mem_range.1 hi)
    rw [h2, Option.all_some, Option.all_some]
    by_cases hi0 : i = 0
    ·subst hi0; rw [hl]; simp
    ·have : ((i : Int) == 0) = false := by simp; omega
     rw [this]; simp
   rw [e2]
   cases (List.range s.size).all fun i => (s[i]?).all fun c => letB c.toNat || !((i : Int) == 0) && digB c.toNat with
   | false => simp [Out.fin]
   | true =>
    simp only [if_true, Out.fin_go, orO, Option.bind_some, Bool.and_true, e0, e1, Bool.false_or]
    unfold kw
    generalize (s.toList == _ || (s.toList == _ || (s.toList == _ || s.toList == _))) = q
    cases q <;> rfl
/-! ### Numbers -/
def natS (r : RatA) : Bool := !r.neg && r.den == [1] && decide (r.num.length ≤ 20) && (r.num.getLast?).all (· != 0)
theorem last_idx {l : List Int} (h : l.length ≠ 0) (hl : l.length ≤ 9223372036854775807) : idx l (IntKind.wrap .i64 ((l.length : Int) - 1)) = l.getLast? := by
 have e : IntKind.wrap .i64 ((l.length : Int) - 1) = ((l.length - 1 : Nat) : Int) := by rw [w64 (by omega) (by omega)]; omega
 rw [e, idx_nat, List.getLast?_eq_getElem?]
theorem num_valid_eq {K : Nat} {l : List Int} {m : Int} (hm : m ≤ 10000) : num_valid K l m = some (decide ((l.length : Int) ≤ m) && (l.getLast?).all (· != 0)) := by
 unfold num_valid
 by_cases h : (l.length : Int) ≤ m
 ·rw [decide_eq_true h, if_pos rfl]
  by_cases h0 : l.length = 0
  ·have : l = [] := List.eq_nil_of_length_eq_zero h0
   subst this; rfl
  ·have e : ((l.length : Int) == 0) = false := int_ne0 h0
   rw [e, last_idx h0 (by omega)]
   cases hx : l.getLast? with
   | none => simp at hx; subst hx; simp at h0
   | some x => simp
 ·rw [decide_eq_false h]; simp
theorem num_Valid_eq {K : Nat} {r : RatA} (hd : r.den = [1]) (hn : r.neg = false) : num_Valid K r 4096 = some (decide ((r.num.length : Int) ≤ 4096) && (r.num.getLast?).all (· != 0)) := by
 unfold num_Valid
 have i0 : idx ([1] : List Int) 0 = some 1 := rfl
 simp only [num_valid_eq (show (4096 : Int) ≤ 10000 by omega), hd, hn, i0, Option.bind_some]
 generalize (decide ((r.num.length : Int) ≤ 4096) && (r.num.getLast?).all (· != 0)) = b
 cases b with
 | false => simp [outM, Out.fin]
 | true => cases hq : ((r.num.length : Int) == 0) <;> simp [outM, Out.fin]
theorem tree_natural_eq {K : Nat} {r : RatA} : tree_natural K r = some (natS r) := by
 unfold tree_natural natS
 cases hn : r.neg with
 | true => simp
 | false =>
  simp only [Bool.not_false, if_true, Bool.true_and]
  by_cases hd : r.den.length = 1
  ·obtain ⟨d, hd⟩ := List.length_eq_one_iff.1 hd
   have i0 : idx ([d] : List Int) 0 = some d := rfl
   simp only [hd, i0, Option.bind_some, List.length_singleton]
   by_cases h1 : d = 1
   ·subst h1
    have e : rat_Valid K r = some (decide ((r.num.length : Int) ≤ 4096) && (r.num.getLast?).all (· != 0)) := by
     unfold rat_Valid; rw [num_Valid_eq hd hn]; rfl
    by_cases h2 : r.num.length ≤ 20
    ·have e2 : decide ((r.num.length : Int) ≤ 20) = true := by simp; omega
     have e3 : decide ((r.num.length : Int) ≤ 4096) = true := by simp; omega
     simp [e, e2, e3, h2]
    ·have e2 : decide ((r.num.length : Int) ≤ 20) = false := by simp; omega
     simp [e2, h2]
   ·simp [h1]
  ·have e : ((r.den.length : Int) == 1) = false := by simp; omega
   have : (r.den == [1]) = false := by
    rw [beq_eq_false_iff_ne]; rintro h; rw [h] at hd; exact hd rfl
   rw [e, this]; simp
theorem r08_natural_eq {K : Nat} {r : RatA} : r08_natural K r = some (natS r) := by
 unfold r08_natural natS
 cases hn : r.neg with
 | true => simp [outM, Out.fin]
 | false =>
  simp only [Bool.not_false, Bool.false_eq_true, if_false, Bool.true_and]
  by_cases hd : r.den.length = 1
  ·obtain ⟨d, hd⟩ := List.length_eq_one_iff.1 hd
   have i0 : idx ([d] : List Int) 0 = some d := rfl
   simp only [hd, i0, Option.bind_some, List.length_singleton]
   by_cases h1 : d = 1
   ·subst h1
    by_cases h2 : r.num.length ≤ 20
    ·have e2 : decide ((20 : Int) < (r.num.length : Int)) = false := by simp; omega
     by_cases h0 : r.num.length = 0
     ·have : r.num = [] := List.eq_nil_of_length_eq_zero h0
      simp [e2, this, Out.fin]
     ·have e : ((r.num.length : Int) == 0) = false := int_ne0 h0
      cases hx : r.num.getLast? with
      | none => simp at hx; rw [hx] at h0; simp at h0
      | some x => simp [e2, e, last_idx h0 (by omega), hx, Out.fin, h2]
    ·have e2 : decide ((20 : Int) < (r.num.length : Int)) = true := by simp; omega
     simp [e2, h2, outM, Out.fin]
   ·simp [h1, outM, Out.fin]
  ·have e : ((r.den.length : Int) != 1) = true := by simp; omega
   have : (r.den == [1]) = false := by
    rw [beq_eq_false_iff_ne]; rintro h; rw [h] at hd; exact hd rfl
   rw [e, this]; simp [outM, Out.fin]
/-! ### Well-formed trees -/
def diffS : NodeA → Bool
 | .mk op _ _ kids => (op == 20 || (op == 21 || (op == 22 || (op == 23 || (op == 24 || (op == 25 || (op == 26 || (op == 27 || (op == 37 || op == 38))))))))) || (op == 29 || op == 30) && kids.attach.all fun ⟨k, _⟩ => diffS k
termination_by n => SizeOf.sizeOf n
decreasing_by exact NodeA.size_kid (by assumption)
def primS : NodeA → Bool
 | .mk op _ _ kids => (op == 3 || (op == 12 || op == 39)) || kids.attach.any fun ⟨k, _⟩ => primS k
termination_by n => SizeOf.sizeOf n
decreasing_by exact NodeA.size_kid (by assumption)
theorem diffS_eq (n : NodeA) : diffS n = ((n.op == 20 || (n.op == 21 || (n.op == 22 || (n.op == 23 || (n.op == 24 || (n.op == 25 || (n.op == 26 || (n.op == 27 || (n.op == 37 || n.op == 38))))))))) || (n.op == 29 || n.op == 30) && n.kids.all diffS) := by
 cases n with | mk o m r ks => rw [diffS]; simp [NodeA.op, NodeA.kids]
theorem primS_eq (n : NodeA) : primS n = ((n.op == 3 || (n.op == 12 || n.op == 39)) || n.kids.any primS) := by
 cases n with | mk o m r ks => rw [primS]; simp [NodeA.op, NodeA.kids]
theorem scan_kids {R : Type} {n : NodeA} {K : Nat} (hK : n.size ≤ K) (hb : n.size ≤ 4611686018427387904) (p : NodeA → Bool) (r : R) {f : (Int → Option (Out Unit R)) → Int → Option (Out Unit R)}
  (h1 : ∀ g (i : Nat) (x : NodeA), x ∈ n.kids → n.kids[i]? = some x → f g (i : Int) = if p x then g (IntKind.wrap .i64 ((i : Int) + 1)) else some (.out r))
  (h2 : ∀ g, f g (n.kids.length : Int) = some (.go ())) : iter K f 0 = some (if n.kids.all p then .go () else .out r) := by
 have hl := n.kids_lt
 have := scanG n.kids.length (fun i => (i : Int)) (fun i => (n.kids[i]?).all p) r () (f := f) (fun g i hi => by
  have hx : n.kids[i]? = some n.kids[i] := List.getElem?_eq_getElem hi
  rw [h1 g i _ (List.getElem_mem hi) hx, hx, w64s (by omega)]; rfl) h2 (K := K) (by omega) rfl
 rw [range_all] at this
 exact this
theorem lt_t {l : List NodeA} {i : Nat} {x : NodeA} (h : l[i]? = some x) : decide ((i : Int) < (l.length : Int)) = true := by
 have := (List.getElem?_eq_some_iff.1 h).1; simp; omega
theorem lt_f {k : Nat} : decide ((k : Int) < (k : Int)) = false := by simp
theorem tree_diff_eq {K : Nat} : ∀ (k : Nat) (n : NodeA), n.size ≤ k → n.size ≤ K → n.size ≤ 4611686018427387904 → iter k (fun self q => tree_differentiable_body K self q) n = some (diffS n) := by
 intro k
 induction k with
 | zero => intro n h; have := n.size_pos; omega
 | succ k ih =>
  intro n h hK hb
  rw [iter_succ, diffS_eq]
  generalize iter k (fun self q => tree_differentiable_body K self q) = S at ih ⊢
  unfold tree_differentiable_body
  simp only [orO', Option.bind_some]
  generalize (n.op == 20 || (n.op == 21 || (n.op == 22 || (n.op == 23 || (n.op == 24 || (n.op == 25 || (n.op == 26 || (n.op == 27 || (n.op == 37 || n.op == 38))))))))) = a
  generalize (n.op == 29 || n.op == 30) = b
  cases a with
  | true => rfl
  | false =>
   cases b with
   | false => rfl
   | true =>
    simp only [Bool.false_eq_true, if_false, if_true, Bool.false_or, Bool.true_and]
    refine ob _ (scan_kids hK hb diffS false (fun g i x hm hx => ?_) (fun g => ?_)) ?_
    ·have hs := NodeA.size_lt hm
     simp only [lt_t hx, if_true, idx_nat, hx, Option.bind_some, ih x (by omega) (by omega) (by omega), outM_eq]
     cases diffS x <;> rfl
    ·simp only [lt_f, Bool.false_eq_true, if_false]
    ·cases n.kids.all diffS <;> rfl
theorem tree_differentiable_eq {K : Nat} {n : NodeA} (hK : n.size ≤ K) (hb : n.size ≤ 4611686018427387904) : tree_differentiable K n = some (diffS n) := tree_diff_eq K n hK hK hb
theorem r08_diff_eq {K : Nat} : ∀ (k : Nat) (n : NodeA), n.size ≤ k → n.size ≤ K → n.size ≤ 4611686018427387904 → iter k (fun self q => r08_differential_body K self q) n = some (diffS n) := by
 intro k
 induction k with
 | zero => intro n h; have := n.size_pos; omega
 | succ k ih =>
  intro n h hK hb
  rw [iter_succ, diffS_eq]
  generalize iter k (fun self q => r08_differential_body K self q) = S at ih ⊢
  unfold r08_differential_body
  have e : (n.op == 20 || (n.op == 21 || (n.op == 22 || (n.op == 23 || (n.op == 24 || (n.op == 25 || (n.op == 26 || (n.op == 27 || (n.op == 37 || n.op == 38))))))))) = (n.op == 20 || (n.op == 21 || (decide (22 ≤ n.op) && decide (n.op ≤ 27) || (n.op == 37 || n.op == 38)))) := by
   rw [Bool.eq_iff_iff]; simp; omega
  rw [e]
  have e2 : ∀ {b c : Bool}, (if decide (22 ≤ n.op) = true then if decide (n.op ≤ 27) = true then some true else if b = true then some true else some c else if b = true then some true else some c) = some (decide (22 ≤ n.op) && decide (n.op ≤ 27) || (b || c)) := by
   intro b c; cases decide (22 ≤ n.op) <;> cases decide (n.op ≤ 27) <;> cases b <;> rfl
  simp only [e2]
  simp only [orO, Option.bind_some]
  generalize (n.op == 20 || (n.op == 21 || (decide (22 ≤ n.op) && decide (n.op ≤ 27) || (n.op == 37 || n.op == 38)))) = a
  generalize (n.op == 29 || n.op == 30) = b
  cases a with
  | true => rfl
  | false =>
   cases b with
   | false => rfl
   | true =>
    simp only [Bool.false_eq_true, if_false, if_true, Bool.false_or, Bool.true_and]
    refine ob _ (scan_kids hK hb diffS false (fun g i x hm hx => ?_) (fun g => ?_)) ?_
    ·have hs := NodeA.size_lt hm
     simp only [lt_t hx, if_true, idx_nat, hx, Option.bind_some, ih x (by omega) (by omega) (by omega), outM_eq]
     cases diffS x <;> rfl
    ·simp only [lt_f, Bool.false_eq_true, if_false]
    ·cases n.kids.all diffS <;> rfl
theorem r08_differential_eq {K : Nat} {n : NodeA} (hK : n.size ≤ K) (hb : n.size ≤ 4611686018427387904) : r08_differential K n = some (diffS n) := r08_diff_eq K n hK hK hb
theorem r08_prim_eq {K : Nat} : ∀ (k : Nat) (n : NodeA), n.size ≤ k → n.size ≤ K → n.size ≤ 4611686018427387904 → iter k (fun self q => r08_primed_body K self q) n = some (primS n) := by
 intro k
 induction k with
 | zero => intro n h; have := n.size_pos; omega
 | succ k ih =>
  intro n h hK hb
  rw [iter_succ, primS_eq]
  generalize iter k (fun self q => r08_primed_body K self q) = S at ih ⊢
  unfold r08_primed_body
  simp only [orO, Option.bind_some]
  generalize (n.op == 3 || (n.op == 12 || n.op == 39)) = a
  cases a with
  | true => rfl
  | false =>
   simp only [Bool.false_eq_true, if_false, Option.bind_some, Out.fin_go, Bool.false_or]
   refine ob _ (scan_kids hK hb (fun x => !primS x) true (fun g i x hm hx => ?_) (fun g => ?_)) ?_
   ·have hs := NodeA.size_lt hm
    simp only [lt_t hx, if_true, idx_nat, hx, Option.bind_some, ih x (by omega) (by omega) (by omega), outM_eq]
    cases primS x <;> rfl
   ·simp only [lt_f, Bool.false_eq_true, if_false]
   ·have : (n.kids.all fun x => !primS x) = !n.kids.any primS := by rw [List.not_any_eq_all_not]
    rw [this]
    cases n.kids.any primS <;> rfl
theorem r08_primed_eq {K : Nat} {n : NodeA} (hK : n.size ≤ K) (hb : n.size ≤ 4611686018427387904) : r08_primed K n = some (primS n) := r08_prim_eq K n hK hK hb
abbrev big : Nat := 1099511627776
/-! ### Size, Levels, within -/
theorem sum_take {α : Type} {l : List α} {f : α → Nat} {i : Nat} {x : α} (h : l[i]? = some x) : ((l.take (i + 1)).map f).sum = ((l.take i).map f).sum + f x := by
 rw [List.take_add_one, h]; simp
theorem sum_take_le {α : Type} {l : List α} {f : α → Nat} : ∀ {i : Nat}, ((l.take i).map f).sum ≤ (l.map f).sum := by
 induction l with
 | nil => intro i; simp
 | cons x l ih => intro i; cases i with
  | zero => simp
  | succ i => rw [List.take_succ_cons, List.map_cons, List.map_cons, List.sum_cons, List.sum_cons]; have := ih (i := i); omega
theorem Size_iter {K : Nat} : ∀ (k : Nat) (n : NodeA), n.size ≤ k → n.size ≤ K → n.size ≤ big → iter k (fun self q => r08_Size_body K self q) n = some (n.size : Int) := by
 intro k
 induction k with
 | zero => intro n h; have := n.size_pos; omega
 | succ k ih =>
  intro n h hK hb
  rw [iter_succ]
  generalize iter k (fun self q => r08_Size_body K self q) = S at ih ⊢
  unfold r08_Size_body
  have hl := n.kids_lt
  have hsz : n.size = 1 + (n.kids.map NodeA.size).sum := by cases n with | mk o m r ks => rw [NodeA.size_mk]; rfl
  have hb' : n.size ≤ 1099511627776 := hb
  refine ob _ (foldG n.kids.length (fun i => (((1 + ((n.kids.take i).map NodeA.size).sum : Nat) : Int), (i : Int))) (n.size : Int) (fun g i hi => ?_) (fun g => ?_) (by omega) rfl) rfl
  ·have hx : n.kids[i]? = some n.kids[i] := List.getElem?_eq_getElem hi
   have hm := List.getElem_mem hi
   have hs := NodeA.size_lt hm
   have h1 := sum_take (f := NodeA.size) hx
   have h2 := sum_take_le (l := n.kids) (f := NodeA.size) (i := i + 1)
   simp only [lt_t hx, if_true, idx_nat, hx, Option.bind_some, ih _ (show n.kids[i].size ≤ k by omega) (by omega) (by omega)]
   rw [w64s (by omega), w64 (by omega) (by omega), h1]
   congr 2
   omega
  ·simp only [lt_f, Bool.false_eq_true, if_false, List.take_length, hsz]
theorem r08_Size_eq {K : Nat} {n : NodeA} (hK : n.size ≤ K) (hb : n.size ≤ big) : r08_Size K n = some (n.size : Int) := Size_iter K n hK hK hb
theorem lev_eq (n : NodeA) : n.lev = 1 + (n.kids.map NodeA.lev).foldl max 0 := by cases n with | mk o m r ks => rw [NodeA.lev_mk]; rfl
theorem Levels_iter {K : Nat} : ∀ (k : Nat) (n : NodeA), n.size ≤ k → n.size ≤ K → n.size ≤ big → iter k (fun self q => r08_Levels_body K self q) n = some (n.lev : Int) := by
 intro k
 induction k with
 | zero => intro n h; have := n.size_pos; omega
 | succ k ih =>
  intro n h hK hb
  rw [iter_succ]
  generalize iter k (fun self q => r08_Levels_body K self q) = S at ih ⊢
  unfold r08_Levels_body
  have hl := n.kids_lt
  have hll := n.lev_le_size
  have hb' : n.size ≤ 1099511627776 := hb
  refine ob (((n.kids.map NodeA.lev).foldl max 0 : Nat) : Int) (foldG n.kids.length (fun i => (((((n.kids.take i).map NodeA.lev).foldl max 0 : Nat) : Int), (i : Int))) _ (fun g i hi => ?_) (fun g => ?_) (by omega) rfl) ?_
  ·have hx : n.kids[i]? = some n.kids[i] := List.getElem?_eq_getElem hi
   have hm := List.getElem_mem hi
   have hs := NodeA.size_lt hm
   simp only [lt_t hx, if_true, idx_nat, hx, Option.bind_some, ih _ (show n.kids[i].size ≤ k by omega) (by omega) (by omega)]
   rw [w64s (by omega), List.take_add_one, hx]
   congr 2
   simp only [Option.toList_some, List.map_append, List.map_cons, List.map_nil, List.foldl_append, List.foldl_cons, List.foldl_nil]
   split <;> omega
  ·simp only [lt_f, Bool.false_eq_true, if_false, List.take_length]
  ·rw [lev_eq] at hll ⊢
   rw [w64 (by omega) (by omega)]
   congr 1
   omega
theorem r08_Levels_eq {K : Nat} {n : NodeA} (hK : n.size ≤ K) (hb : n.size ≤ big) : r08_Levels K n = some (n.lev : Int) := Levels_iter K n hK hK hb
def Within (n : NodeA) (L v : Int) (r : Bool × Int) : Prop := if (n.size : Int) ≤ L ∧ (n.lev : Int) ≤ v then r = (true, L - n.size) else r.1 = false
theorem foldl_max_le {l : List Nat} {v : Nat} : l.foldl max 0 ≤ v ↔ ∀ x ∈ l, x ≤ v := by
 induction l with
 | nil => simp
 | cons y l ih => rw [List.foldl_cons, foldl_max]; simp only [List.mem_cons, forall_eq_or_imp]; rw [← ih]; omega
theorem within_iter {K : Nat} : ∀ (k : Nat) (n : NodeA) (L v : Int), n.size ≤ k → n.size ≤ K → n.size ≤ big → 0 ≤ L → L ≤ 1000000 → -1000000 ≤ v → v ≤ 1000000 → v - n.size ≥ -1152921504606846976 → ∃ r, iter k (fun self q => tree_within_body K self q.1 q.2.1 q.2.2) (n, L, v) = some r ∧ Within n L v r := by
 intro k
 induction k with
 | zero => intro n L v h; have := n.size_pos; omega
 | succ k ih =>
  intro n L v h hK hb hL hL' hv hv' hvs
  rw [iter_succ]
  generalize iter k (fun self q => tree_within_body K self q.1 q.2.1 q.2.2) = S at ih ⊢
  have hl := n.kids_lt
  have hp := n.size_pos
  have hlv := lev_eq n
  have hsz : n.size = 1 + (n.kids.map NodeA.size).sum := by cases n with | mk o m r ks => rw [NodeA.size_mk]; rfl
  have hb' : n.size ≤ 1099511627776 := hb
  have e1 : IntKind.wrap .i64 (L - 1) = L - 1 := w64 (by omega) (by omega)
  have e2 : IntKind.wrap .i64 (v - 1) = v - 1 := w64 (by omega) (by omega)
  unfold tree_within_body
  simp only [e1, e2]
  by_cases hc : L - 1 < 0 ∨ v ≤ 0
  ·refine ⟨(false, L - 1), ?_, ?_⟩
   ·have : (if decide (L - 1 < 0) = true then some true else some (decide (v ≤ 0))) = some true := by
     rcases hc with h | h
     ·rw [decide_eq_true h]; rfl
     ·rw [decide_eq_true h]; split <;> rfl
    rw [this]; rfl
   ·unfold Within
    rw [if_neg]
    rintro ⟨h1, h2⟩
    rcases hc with h | h <;> omega
  ·have : (if decide (L - 1 < 0) = true then some true else some (decide (v ≤ 0))) = some false := by
    have h1 : decide (L - 1 < 0) = false := by simp; omega
    have h2 : decide (v ≤ 0) = false := by simp; omega
    rw [h1, h2]; rfl
   rw [this]
   simp only [Option.bind_some, Bool.false_eq_true, if_false, Out.fin_go]
   have hlev : (∀ x ∈ n.kids, (x.lev : Int) ≤ v - 1) ↔ (n.lev : Int) ≤ v := by
    rw [hlv]
    constructor
    ·intro hq
     have : (n.kids.map NodeA.lev).foldl max 0 ≤ (v - 1).toNat := foldl_max_le.2 fun x hx => by
      obtain ⟨y, hy, rfl⟩ := List.mem_map.1 hx
      have := hq y hy; omega
     omega
    ·intro hq x hx
     have := foldl_max_le.1 (Nat.le_refl ((n.kids.map NodeA.lev).foldl max 0)) _ (List.mem_map_of_mem hx)
     omega
   refine ex_ob (Exists.imp (fun o ho => ⟨ho.1, ?_⟩) (loopE (fun i (s : Int × Int) => s.1 = i ∧ 0 ≤ s.2 ∧ s.2 ≤ 1000000)
    (fun i s o => if ((((n.kids.drop i).map NodeA.size).sum : Nat) : Int) ≤ s.2 ∧ (∀ x ∈ n.kids.drop i, (x.lev : Int) ≤ v - 1) then o = .go (s.2 - ((((n.kids.drop i).map NodeA.size).sum : Nat) : Int)) else ∃ z, o = .out (false, z))
    n.kids.length (fun g i s hi hj hg => ?_) (fun g s hj => ?_) 0 (0, L - 1) ⟨rfl, by simp only; omega, by simp only; omega⟩ (Nat.zero_le _) (by omega)))
   ·have h2 := ho.2
    rw [List.drop_zero] at h2
    simp only at h2
    by_cases hc3 : ((((n.kids).map NodeA.size).sum : Nat) : Int) ≤ L - 1 ∧ ∀ x ∈ n.kids, (x.lev : Int) ≤ v - 1
    ·rw [if_pos hc3] at h2
     subst h2
     refine ⟨(true, L - n.size), ?_, ?_⟩
     ·simp only [Out.fin_go, hsz]; congr 2; omega
     ·unfold Within; rw [if_pos ⟨by omega, hlev.1 hc3.2⟩]
    ·rw [if_neg hc3] at h2
     obtain ⟨z, rfl⟩ := h2
     refine ⟨(false, z), rfl, ?_⟩
     unfold Within; rw [if_neg fun hq => hc3 ⟨by omega, hlev.2 hq.2⟩]
   ·obtain ⟨s1, M⟩ := s
    obtain ⟨rfl, hM, hM'⟩ := hj
    simp only at hM hM'
    have hx : n.kids[i]? = some n.kids[i] := List.getElem?_eq_getElem hi
    have hm := List.getElem_mem hi
    have hs := NodeA.size_lt hm
    have hbk : n.kids[i].size ≤ big := by unfold big; omega
    obtain ⟨r, hr, hw⟩ := ih n.kids[i] M (v - 1) (by omega) (by omega) hbk hM hM' (by omega) (by omega) (by omega)
    simp only [lt_t hx, if_true, idx_nat, hx, Option.bind_some, hr]
    have hdrop := List.drop_eq_getElem_cons hi
    have hsum : ((n.kids.drop i).map NodeA.size).sum = n.kids[i].size + ((n.kids.drop (i + 1)).map NodeA.size).sum := by rw [hdrop, List.map_cons, List.sum_cons]
    have hall : (∀ x ∈ n.kids.drop i, (x.lev : Int) ≤ v - 1) ↔ (n.kids[i].lev : Int) ≤ v - 1 ∧ ∀ x ∈ n.kids.drop (i + 1), (x.lev : Int) ≤ v - 1 := by rw [hdrop]; exact List.forall_mem_cons
    unfold Within at hw
    by_cases hok : (n.kids[i].size : Int) ≤ M ∧ (n.kids[i].lev : Int) ≤ v - 1
    ·rw [if_pos hok] at hw
     subst hw
     simp only [Bool.not_true, Bool.false_eq_true, if_false]
     rw [w64s (by omega)]
     obtain ⟨o, h1, h2⟩ := hg (((i + 1 : Nat) : Int), M - n.kids[i].size) ⟨rfl, by simp only; omega, by simp only; omega⟩
     simp only at h2
     refine ⟨o, h1, ?_⟩
     by_cases hc2 : ((((n.kids.drop (i + 1)).map NodeA.size).sum : Nat) : Int) ≤ M - n.kids[i].size ∧ ∀ x ∈ n.kids.drop (i + 1), (x.lev : Int) ≤ v - 1
     ·rw [if_pos hc2] at h2
      rw [if_pos ⟨by rw [hsum]; omega, hall.2 ⟨hok.2, hc2.2⟩⟩, h2, hsum]
      congr 1
      omega
     ·rw [if_neg hc2] at h2
      rw [if_neg fun hq => hc2 ⟨by rw [hsum] at hq; omega, (hall.1 hq.2).2⟩]
      exact h2
    ·rw [if_neg hok] at hw
     rw [hw]
     refine ⟨.out (false, r.2), rfl, ?_⟩
     rw [if_neg fun hq => hok ⟨by rw [hsum] at hq; omega, (hall.1 hq.2).1⟩]
     exact ⟨_, rfl⟩
   ·obtain ⟨s1, M⟩ := s
    obtain ⟨rfl, hM, hM'⟩ := hj
    simp only at hM hM'
    refine ⟨.go M, by simp only [lt_f, Bool.false_eq_true, if_false], ?_⟩
    rw [List.drop_length, if_pos ⟨by simpa using hM, fun x hx => by cases hx⟩]; simp
theorem tree_within_eq {K : Nat} {n : NodeA} (hK : n.size ≤ K) (hb : n.size ≤ big) : ∃ r, tree_within K n 4000 60 = some r ∧ Within n 4000 60 r :=
 within_iter K n 4000 60 hK hK hb (by omega) (by omega) (by omega) (by omega) (by unfold big at hb; omega)
/-! ### formed and well -/
abbrev emptyB (s : ByteArray) : Bool := s.toList == (⟨#[]⟩ : ByteArray).toList
theorem emptyB_name {s : ByteArray} (h : emptyB s = true) : nameB s = false := by
 have : s = ⟨#[]⟩ := bytes_eq.1 h
 subst this; rfl
def numC (n : NodeA) : Bool := if n.op == 1 then natS n.num else !(n.num.neg || (decide (0 < (n.num.num.length : Int)) || decide (0 < (n.num.den.length : Int))))
def nameC (n : NodeA) : Bool := if namedS n.op || (n.op == 10 || n.op == 37) then nameB n.name else emptyB n.name
def flowK (kids : List NodeA) (i : Nat) : Bool := (kids[i]?).all fun x => !(x.op != 55 && (x.op != 56 || (i : Int) != ((kids.length - 2 : Nat) : Int))) && (kids.take i).all fun y => !(x.op == 55 && y.name.toList == x.name.toList)
def stC (n : NodeA) (d fd fl : Bool) : Bool :=
 if n.op == 10 || n.op == 37 then decide (n.kids.length ≤ 1)
 else if n.op == 54 then decide (2 ≤ n.kids.length) && (List.range (n.kids.length - 1)).all (flowK n.kids)
 else if n.op == 3 then !(d || (fd || fl))
 else if n.op == 12 then !(d || fl)
 else if n.op == 39 then !(fl || (((n.kids.length : Int) != 1) || !((n.kids[0]?).all diffS)))
 else true
def sortsC (n : NodeA) : List Int :=
 if n.op == 10 || n.op == 37 then List.replicate n.kids.length 1
 else if n.op == 54 then List.replicate (n.kids.length - 1) 4 ++ [2]
 else (sortsS n.op).getD []
def lastC (n : NodeA) : Bool :=
 if n.op == 8 then (n.kids[1]?).all fun x => x.op == 1 && decide (0 < (x.num.num.length : Int))
 else if n.op == 9 then (n.kids[1]?).all fun x => x.op == 1 && (((x.num.num.length : Int) == 0) || ((x.num.num.length : Int) == 1) && (x.num.num[0]?).all fun w => decide (w ≤ 20))
 else true
def okS : NodeA → Bool → Bool → Bool → Bool
 | .mk op name num kids, d, fd, fl =>
  numC (.mk op name num kids) && (nameC (.mk op name num kids) && (stC (.mk op name num kids) d fd fl && ((kids.map fun x => sortS x.op) == sortsC (.mk op name num kids) && ((kids.attach.all fun ⟨k, _⟩ => okS k (d || op == 12) (fd || op == 39) (fl || op == 54)) && lastC (.mk op name num kids)))))
termination_by n => SizeOf.sizeOf n
decreasing_by exact NodeA.size_kid (by assumption)
theorem okS_eq (n : NodeA) (d fd fl : Bool) : okS n d fd fl = (numC n && (nameC n && (stC n d fd fl && ((n.kids.map fun x => sortS x.op) == sortsC n && (n.kids.all (fun k => okS k (d || n.op == 12) (fd || n.op == 39) (fl || n.op == 54)) && lastC n))))) := by
 cases n with
 | mk o m r ks =>
  rw [okS]
  have : (ks.attach.all fun x => match x with | ⟨k, _⟩ => okS k (d || o == 12) (fd || o == 39) (fl || o == 54)) = ks.all (fun k => okS k (d || o == 12) (fd || o == 39) (fl || o == 54)) := by
   rw [Bool.eq_iff_iff]; simp [List.all_eq_true]
  rw [this]; rfl
theorem num_join {K : Nat} {n : NodeA} : (if (n.op == (1 : Int)) then (tree_natural K n.num).bind fun r4 => if (!r4) then outM (some false) else some (.go ()) else
   ((if n.num.neg then some true else if (decide ((0 : Int) < (n.num.num.length : Int))) then some true else some (decide ((0 : Int) < (n.num.den.length : Int)))) : Option Bool).bind (fun v7_0 => if v7_0 then outM (some false) else some (.go ())) : Option (Out Unit Bool)) = some (if numC n then .go () else .out false) := by
 unfold numC
 simp only [tree_natural_eq, Option.bind_some, orO, outM_eq]
 cases (n.op == 1) <;> cases natS n.num <;> cases (n.num.neg || (decide (0 < (n.num.num.length : Int)) || decide (0 < (n.num.den.length : Int)))) <;> rfl
theorem num_join' {K : Nat} {n : NodeA} : (if (n.op == (1 : Int)) then (r08_natural K n.num).bind fun r4 => if (!r4) then outM (some false) else some (.go ()) else
   ((if n.num.neg then some true else if (decide ((0 : Int) < (n.num.num.length : Int))) then some true else some (decide ((0 : Int) < (n.num.den.length : Int)))) : Option Bool).bind (fun v7_0 => if v7_0 then outM (some false) else some (.go ())) : Option (Out Unit Bool)) = some (if numC n then .go () else .out false) := by
 unfold numC
 simp only [r08_natural_eq, Option.bind_some, orO, outM_eq]
 cases (n.op == 1) <;> cases natS n.num <;> cases (n.num.neg || (decide (0 < (n.num.num.length : Int)) || decide (0 < (n.num.den.length : Int)))) <;> rfl
theorem app_one {i : Nat} {x : Int} (h : i ≤ big) : appO 8 (List.replicate i x) [x] = some (List.replicate (i + 1) x) := by
 unfold appO big at *
 rw [if_pos (by simp; omega), List.replicate_succ']
theorem map_eq {n : NodeA} {l : List Int} (hl : n.kids.length = l.length) (q : NodeA → Bool) :
  ((List.range n.kids.length).all fun i => (n.kids[i]?).all fun x => (l[i]?).all fun s => !(sortS x.op != s) && q x) = (((n.kids.map fun x => sortS x.op) == l) && n.kids.all q) := by
 rw [Bool.eq_iff_iff]
 simp only [List.all_eq_true, List.mem_range, Bool.and_eq_true, beq_iff_eq]
 constructor
 ·intro h
  have get : ∀ i (hi : i < n.kids.length), sortS n.kids[i].op = l[i]'(by omega) ∧ q n.kids[i] = true := fun i hi => by
   have := h i hi
   rw [List.getElem?_eq_getElem hi, List.getElem?_eq_getElem (show i < l.length by omega)] at this
   simpa using this
  refine ⟨List.ext_getElem (by simpa using hl) fun i h1 h2 => ?_, fun x hx => ?_⟩
  ·rw [List.getElem_map]; exact (get i (by simpa using h1)).1
  ·obtain ⟨i, hi, rfl⟩ := List.mem_iff_getElem.1 hx
   exact (get i hi).2
 ·rintro ⟨rfl, h⟩ i hi
  have hx : n.kids[i]? = some n.kids[i] := List.getElem?_eq_getElem hi
  simp [hx, h _ (List.getElem_mem hi)]
theorem formed_iter {K : Nat} (hK : 12 < K) : ∀ (k : Nat) (n : NodeA) (at' : Tree_placeA), n.size ≤ k → n.size ≤ K → n.size ≤ big → sortS n.op ≠ 0 →
  iter k (fun self q => tree_formed_body K self q.1 q.2) (n, at') = some (okS n at'.inDiff at'.inFDiff at'.inFlow) := by
 intro k
 induction k with
 | zero => intro n a h; have := n.size_pos; omega
 | succ k ih =>
  intro n a h hK2 hb hsort
  rw [iter_succ, okS_eq]
  generalize iter k (fun self q => tree_formed_body K self q.1 q.2) = S at ih ⊢
  obtain ⟨d, fd, fl⟩ := a
  have hl := n.kids_lt
  have htab := tab hsort
  have hbig : n.size ≤ 1099511627776 := hb
  unfold tree_formed_body
  refine ob _ num_join ?_
  cases hA : numC n with
  | false => rfl
  | true =>
  simp only [if_true, Out.fin_go, tree_shape_eq, Option.bind_some, tree_Name_eq hK, Bool.true_and]
  refine ob (if (namedS n.op && nameB n.name || !namedS n.op && (emptyB n.name || (n.op == 10 || n.op == 37))) then .go () else .out false) ?_ ?_
  ·have e10 : (n.op != 10) = !(n.op == 10) := rfl
   have e37 : (n.op != 37) = !(n.op == 37) := rfl
   rw [e10, e37]
   generalize (n.op == 10) = b10
   generalize (n.op == 37) = b37
   have : (n.name.toList == (⟨#[]⟩ : ByteArray).toList) = emptyB n.name := rfl
   rw [this]
   cases namedS n.op <;> cases nameB n.name <;> cases emptyB n.name <;> cases b10 <;> cases b37 <;> rfl
  cases hB : (namedS n.op && nameB n.name || !namedS n.op && (emptyB n.name || (n.op == 10 || n.op == 37))) with
  | false =>
   have : nameC n = false := by
    unfold nameC
    revert hB
    cases namedS n.op <;> cases nameB n.name <;> cases emptyB n.name <;> cases (n.op == 10 || n.op == 37) <;> simp
   rw [this]; rfl
  | true =>
  simp only [if_true, Out.fin_go]
  -- the places
  refine ob (if (!(n.op == 10 || n.op == 37) || nameB n.name) && stC n d fd fl then .go (sortsC n, (⟨d || n.op == 12, fd || n.op == 39, fl || n.op == 54⟩ : Tree_placeA)) else .out false) ?_ ?_
  ·by_cases h10 : (n.op == 10 || n.op == 37) = true
   ·obtain ⟨hs0, hn0⟩ := htab.2.2.2.1 (by rw [h10]; rfl)
    have o12 : (n.op == 12) = false := by rw [Bool.eq_false_iff]; intro hc; simp at hc h10; omega
    have o39 : (n.op == 39) = false := by rw [Bool.eq_false_iff]; intro hc; simp at hc h10; omega
    have o54 : (n.op == 54) = false := by rw [Bool.eq_false_iff]; intro hc; simp at hc h10; omega
    have e : stC n d fd fl = decide (n.kids.length ≤ 1) := by unfold stC; rw [if_pos h10]
    have e2 : sortsC n = List.replicate n.kids.length 1 := by unfold sortsC; rw [if_pos h10]
    rw [e, e2, o12, o39, o54, h10, Bool.not_true, Bool.false_or, Bool.or_false, Bool.or_false, Bool.or_false]
    simp only [orO', h10, Option.bind_some, if_true]
    cases hnm : nameB n.name with
    | false => rfl
    | true =>
     by_cases h1 : n.kids.length ≤ 1
     ·have hd : decide ((1 : Int) < (n.kids.length : Int)) = false := by simp; omega
      simp only [Bool.not_true, Bool.false_eq_true, if_false, hd, Option.bind_some, Out.fin_go, hs0, Option.isNone_none, must, if_true, Bool.true_and, decide_eq_true h1]
      refine ob _ (foldG n.kids.length (fun i => ((i : Int), List.replicate i (1 : Int))) (List.replicate n.kids.length 1) (fun g i hi => ?_) (fun g => ?_) (by omega) rfl) rfl
      ·have hx : n.kids[i]? = some n.kids[i] := List.getElem?_eq_getElem hi
       simp only [lt_t hx, if_true, app_one (show i ≤ big by unfold big; omega), Option.bind_some]
       rw [w64s (by omega)]
      ·simp only [lt_f, Bool.false_eq_true, if_false]
     ·have hd : decide ((1 : Int) < (n.kids.length : Int)) = true := by simp; omega
      have hd2 : decide (n.kids.length ≤ 1) = false := by simp; omega
      simp only [Bool.not_true, Bool.false_eq_true, if_false, hd, Option.bind_some, hd2, Bool.and_false]
      rfl
   ·have h10' : (n.op == 10 || n.op == 37) = false := by simpa using h10
    rw [h10', Bool.not_false, Bool.true_or, Bool.true_and]
    simp only [orO', h10', Option.bind_some, Bool.false_eq_true, if_false]
    by_cases h54 : (n.op == 54) = true
    ·obtain ⟨hs0, hn0⟩ := htab.2.2.2.1 (by rw [h54]; simp)
     have o12 : (n.op == 12) = false := by rw [Bool.eq_false_iff]; intro hc; simp at hc h54; omega
     have o39 : (n.op == 39) = false := by rw [Bool.eq_false_iff]; intro hc; simp at hc h54; omega
     have e : stC n d fd fl = (decide (2 ≤ n.kids.length) && (List.range (n.kids.length - 1)).all (flowK n.kids)) := by unfold stC; rw [h10', h54]; rfl
     have e2 : sortsC n = List.replicate (n.kids.length - 1) 4 ++ [2] := by unfold sortsC; rw [h10', h54]; rfl
     have he : emptyB n.name = true := by
      revert hB; rw [hn0, h10']; simp
     have he' : (n.name.toList == (⟨#[]⟩ : ByteArray).toList) = true := he
     rw [e, e2, o12, o39, h54, Bool.or_true, Bool.or_false, Bool.or_false]
     simp only [if_true, he', Bool.not_true, Bool.false_eq_true, if_false]
     by_cases h2 : 2 ≤ n.kids.length
     ·have hd : decide ((n.kids.length : Int) < 2) = false := by simp; omega
      have e3 : IntKind.wrap .i64 ((n.kids.length : Int) - 1) = ((n.kids.length - 1 : Nat) : Int) := by rw [w64 (by omega) (by omega)]; omega
      have e4 : IntKind.wrap .i64 (((n.kids.length - 1 : Nat) : Int) - 1) = ((n.kids.length - 2 : Nat) : Int) := by rw [w64 (by omega) (by omega)]; omega
      simp only [hd, Bool.false_eq_true, if_false, Option.bind_some, Out.fin_go, hs0, Option.isNone_none, must, if_true, e3, e4, decide_eq_true h2, Bool.true_and]
      refine ob _ (scanG (n.kids.length - 1) (fun i => ((i : Int), List.replicate i (4 : Int))) (flowK n.kids) (Out.out false : Out (List Int × Tree_placeA) Bool) (List.replicate (n.kids.length - 1) 4) (fun g i hi => ?_) (fun g => ?_) (by omega) rfl) ?_
      ·have hi' : i < n.kids.length := by omega
       have hx : n.kids[i]? = some n.kids[i] := List.getElem?_eq_getElem hi'
       have hd : decide ((i : Int) < ((n.kids.length - 1 : Nat) : Int)) = true := by simp; omega
       have hcut : cutL n.kids none (some (i : Int)) = some (n.kids.take i) := by
        unfold cutL; simp only [Option.getD_some, Option.getD_none]
        rw [if_pos (by omega)]; simp
       simp only [hd, if_true, idx_nat, hx, Option.bind_some, hcut]
       have hC : flowK n.kids i = (!(n.kids[i].op != 55 && (n.kids[i].op != 56 || (i : Int) != ((n.kids.length - 2 : Nat) : Int))) && (n.kids.take i).all fun y => !(n.kids[i].op == 55 && y.name.toList == n.kids[i].name.toList)) := by unfold flowK; rw [hx]; rfl
       rw [hC, w64s (by omega)]
       simp only [orO, andO, Option.bind_some]
       refine ob (if (!(n.kids[i].op != 55 && (n.kids[i].op != 56 || (i : Int) != ((n.kids.length - 2 : Nat) : Int))) && (n.kids.take i).all fun y => !(n.kids[i].op == 55 && y.name.toList == n.kids[i].name.toList)) then .go (List.replicate (i + 1) 4) else .out (.out (.out false))) ?_ ?_
       ·cases hb : (n.kids[i].op != 55 && (n.kids[i].op != 56 || (i : Int) != ((n.kids.length - 2 : Nat) : Int))) with
        | true => rfl
        | false =>
         simp only [Option.bind_some, Bool.false_eq_true, if_false, Out.fin_go, Bool.not_false, Bool.true_and]
         have hti : (n.kids.take i).length = i := by rw [List.length_take]; omega
         refine ob _ (scanG (n.kids.take i).length (fun j => (j : Int)) (fun j => ((n.kids.take i)[j]?).all fun y => !(n.kids[i].op == 55 && y.name.toList == n.kids[i].name.toList)) (.out (.out (.out false))) () (fun g' j hj => ?_) (fun g' => ?_) (by omega) rfl) ?_
         ·have hy : (n.kids.take i)[j]? = some (n.kids.take i)[j] := List.getElem?_eq_getElem hj
          simp only [lt_t hy, if_true, idx_nat, hy, Option.bind_some, Option.all_some]
          rw [w64s (by omega)]
          cases (n.kids[i].op == 55 && (n.kids.take i)[j].name.toList == n.kids[i].name.toList) <;> rfl
         ·simp only [lt_f, Bool.false_eq_true, if_false]
         ·rw [range_all]
          cases ((n.kids.take i).all fun y => !(n.kids[i].op == 55 && y.name.toList == n.kids[i].name.toList)) with
          | false => rfl
          | true => simp only [if_true, Out.fin_go, app_one (show i ≤ big by unfold big; omega), Option.bind_some]
       ·cases (!(n.kids[i].op != 55 && (n.kids[i].op != 56 || (i : Int) != ((n.kids.length - 2 : Nat) : Int))) && (n.kids.take i).all fun y => !(n.kids[i].op == 55 && y.name.toList == n.kids[i].name.toList)) <;> rfl
      ·have hd : decide (((n.kids.length - 1 : Nat) : Int) < ((n.kids.length - 1 : Nat) : Int)) = false := by simp
       simp only [hd, Bool.false_eq_true, if_false]
      ·cases (List.range (n.kids.length - 1)).all (flowK n.kids) with
       | false => rfl
       | true =>
        simp only [if_true, Out.fin_go, appO]
        rw [if_pos (by simp; omega)]; rfl
     ·have hd : decide ((n.kids.length : Int) < 2) = true := by simp; omega
      have hd2 : decide (2 ≤ n.kids.length) = false := by simp; omega
      simp only [hd, hd2, if_true, Option.bind_some, Bool.false_and]
      rfl
    ·have h54' : (n.op == 54) = false := by simpa using h54
     have e2 : sortsC n = (sortsS n.op).getD [] := by unfold sortsC; rw [h10', h54']; rfl
     have e1 : stC n d fd fl = if n.op == 3 then !(d || (fd || fl)) else if n.op == 12 then !(d || fl) else if n.op == 39 then !(fl || (((n.kids.length : Int) != 1) || !((n.kids[0]?).all diffS))) else true := by
      unfold stC; rw [h10', h54']; rfl
     rw [e1, e2, h54', Bool.or_false]
     simp only [Bool.false_eq_true, if_false]
     by_cases h3 : (n.op == 3) = true
     ·have o12 : (n.op == 12) = false := by rw [Bool.eq_false_iff]; intro hc; simp at hc h3; omega
      have o39 : (n.op == 39) = false := by rw [Bool.eq_false_iff]; intro hc; simp at hc h3; omega
      simp only [h3, o12, o39, if_true, Bool.or_false]
      cases d <;> cases fd <;> cases fl <;> rfl
     have h3' : (n.op == 3) = false := by simpa using h3
     by_cases h12 : (n.op == 12) = true
     ·have o39 : (n.op == 39) = false := by rw [Bool.eq_false_iff]; intro hc; simp at hc h12; omega
      simp only [h3', h12, o39, if_true, Bool.or_false, Bool.or_true, Bool.false_eq_true, if_false]
      cases d <;> cases fd <;> cases fl <;> rfl
     have h12' : (n.op == 12) = false := by simpa using h12
     by_cases h39 : (n.op == 39) = true
     ·simp only [h3', h12', h39, if_true, Bool.or_false, Bool.or_true, Bool.false_eq_true, if_false]
      cases fl with
      | true => rfl
      | false =>
       by_cases hk : n.kids.length = 1
       ·have hx : n.kids[0]? = some n.kids[0] := List.getElem?_eq_getElem (by omega)
        have hm : n.kids[0] ∈ n.kids := List.getElem_mem (by omega)
        have hs := NodeA.size_lt hm
        have i0 : idx n.kids 0 = some n.kids[0] := by rw [← hx]; exact idx_nat (k := 0)
        have e : ((n.kids.length : Int) != 1) = false := by simp [hk]
        simp only [e, Bool.false_eq_true, if_false, i0, hx, Option.bind_some, Option.all_some, tree_differentiable_eq (show n.kids[0].size ≤ K by omega) (show n.kids[0].size ≤ 4611686018427387904 by omega)]
        cases diffS n.kids[0] <;> cases d <;> cases fd <;> rfl
       ·have e : ((n.kids.length : Int) != 1) = true := by simp; omega
        simp only [e, Bool.false_eq_true, if_false, if_true, Bool.false_or, Bool.true_or]
        rfl
     have h39' : (n.op == 39) = false := by simpa using h39
     simp only [h3', h12', h39', Bool.false_eq_true, if_false, if_true, Bool.or_false]
  cases hC : ((!(n.op == 10 || n.op == 37) || nameB n.name) && stC n d fd fl) with
  | false =>
   have : (nameC n && stC n d fd fl) = false := by
    unfold nameC
    revert hB hC
    cases namedS n.op <;> cases nameB n.name <;> cases emptyB n.name <;> cases (n.op == 10 || n.op == 37) <;> cases stC n d fd fl <;> simp
   rw [← Bool.and_assoc, this]; rfl
  | true =>
  have hN : nameC n = true := by
   unfold nameC
   revert hB hC
   cases namedS n.op <;> cases nameB n.name <;> cases emptyB n.name <;> cases (n.op == 10 || n.op == 37) <;> simp
  have hS : stC n d fd fl = true := by
   revert hC; cases stC n d fd fl <;> simp
  rw [hN, hS]
  simp only [if_true, Out.fin_go, Bool.true_and]
  have hne : ∀ s ∈ sortsC n, s ≠ 0 := by
   unfold sortsC
   split
   ·intro s hs; have := List.eq_of_mem_replicate hs; omega
   ·split
    ·intro s hs
     rcases List.mem_append.1 hs with hs | hs
     ·have := List.eq_of_mem_replicate hs; omega
     ·have := List.mem_singleton.1 hs; omega
    ·exact htab.2.2.2.2.2.2.2
  by_cases hlen : n.kids.length = (sortsC n).length
  ·have e : ((n.kids.length : Int) != ((sortsC n).length : Int)) = false := by rw [hlen]; simp
   simp only [e, Bool.false_eq_true, if_false]
   refine ob (if ((n.kids.map fun x => sortS x.op) == sortsC n && n.kids.all (fun k => okS k (d || n.op == 12) (fd || n.op == 39) (fl || n.op == 54))) then .go () else .out false) ?_ ?_
   ·rw [← map_eq hlen (fun k => okS k (d || n.op == 12) (fd || n.op == 39) (fl || n.op == 54))]
    refine scanG n.kids.length (fun i => (i : Int)) _ false () (fun g i hi => ?_) (fun g => ?_) (by omega) rfl
    ·have hx : n.kids[i]? = some n.kids[i] := List.getElem?_eq_getElem hi
     have hm := List.getElem_mem hi
     have hs := NodeA.size_lt hm
     have hbk : n.kids[i].size ≤ big := by unfold big; omega
     have hy : (sortsC n)[i]? = some ((sortsC n)[i]'(by omega)) := List.getElem?_eq_getElem (by omega)
     have hy0 := hne _ (List.getElem_mem (show i < (sortsC n).length by omega))
     simp only [lt_t hx, if_true, idx_nat, hx, hy, Option.bind_some, tree_Sort_eq, Option.all_some]
     generalize (sortsC n)[i]'(by omega) = s at hy0
     by_cases hq : sortS n.kids[i].op = s
     ·have e1 : (sortS n.kids[i].op != s) = false := by simp [hq]
      simp only [e1, Bool.false_eq_true, if_false, Bool.not_false, Bool.true_and, ih n.kids[i] ⟨d || n.op == 12, fd || n.op == 39, fl || n.op == 54⟩ (by omega) (by omega) hbk (by rw [hq]; exact hy0), Option.bind_some]
      rw [w64s (by omega)]
      cases okS n.kids[i] (d || n.op == 12) (fd || n.op == 39) (fl || n.op == 54) <;> rfl
     ·have e1 : (sortS n.kids[i].op != s) = true := by simp [hq]
      simp only [e1, if_true, Bool.not_true, Bool.false_and]
      rfl
    ·simp only [lt_f, Bool.false_eq_true, if_false]
   ·rw [← Bool.and_assoc ((n.kids.map fun x => sortS x.op) == sortsC n)]
    cases hD : ((n.kids.map fun x => sortS x.op) == sortsC n && n.kids.all (fun k => okS k (d || n.op == 12) (fd || n.op == 39) (fl || n.op == 54))) with
    | false => rfl
    | true =>
     simp only [if_true, Out.fin_go, Bool.true_and]
     unfold lastC
     by_cases h89 : (n.op == 8 || n.op == 9) = true
     ·have a10 : (n.op == 10 || n.op == 37) = false := by rw [Bool.eq_false_iff]; intro hc; simp at hc h89; omega
      have a54 : (n.op == 54) = false := by rw [Bool.eq_false_iff]; intro hc; simp at hc h89; omega
      have h2 : n.kids.length = 2 := by
       rw [hlen]; unfold sortsC
       rw [a10, a54, htab.2.2.2.2.2.1 h89]; rfl
      have hx : n.kids[1]? = some n.kids[1] := List.getElem?_eq_getElem (by omega)
      have i1 : idx n.kids 1 = some n.kids[1] := by rw [← hx]; exact idx_nat (k := 1)
      simp only [i1, hx, Option.bind_some, Option.all_some]
      cases (n.op == 8) with
      | true => cases (n.kids[1].op == 1) <;> rfl
      | false =>
       cases (n.op == 9) with
       | false => rfl
       | true =>
        simp only [Bool.false_eq_true, if_false, if_true]
        cases (n.kids[1].op == 1) with
        | false => rfl
        | true =>
         simp only [if_true, Bool.true_and]
         by_cases h0 : n.kids[1].num.num.length = 0
         ·rw [int_eq0 h0]; rfl
         ·have hw : n.kids[1].num.num[0]? = some n.kids[1].num.num[0] := List.getElem?_eq_getElem (by omega)
          have i0 : idx n.kids[1].num.num 0 = some n.kids[1].num.num[0] := by rw [← hw]; exact idx_nat (k := 0)
          simp only [int_ne0 h0, Bool.false_eq_true, if_false, Bool.false_or, i0, hw, Option.bind_some, Option.all_some, andO]
     ·have h8 : (n.op == 8) = false := by revert h89; cases (n.op == 8) <;> simp
      have h9 : (n.op == 9) = false := by revert h89; cases (n.op == 9) <;> simp
      rw [h8, h9]; rfl
  ·have e : ((n.kids.length : Int) != ((sortsC n).length : Int)) = true := by simp; omega
   have e2 : ((n.kids.map fun x => sortS x.op) == sortsC n) = false := by
    rw [beq_eq_false_iff_ne]; intro hq; apply hlen; rw [← hq]; simp
   rw [e, e2]; rfl
theorem okS_fl : ∀ n d fd, okS n d fd true = (okS n d fd false && !primS n) := by
 refine NodeA.ind fun n ih d fd => ?_
 rw [okS_eq n d fd true, okS_eq n d fd false, primS_eq]
 have hk : n.kids.all (fun k => okS k (d || n.op == 12) (fd || n.op == 39) true) = (n.kids.all (fun k => okS k (d || n.op == 12) (fd || n.op == 39) false) && !n.kids.any primS) := by
  rw [Bool.eq_iff_iff, Bool.and_eq_true, List.all_eq_true, List.all_eq_true, Bool.not_eq_true', List.any_eq_false]
  constructor
  ·intro h
   refine ⟨fun x hx => ?_, fun x hx => ?_⟩ <;> (have := h x hx; rw [ih x hx] at this; revert this; cases okS x (d || n.op == 12) (fd || n.op == 39) false <;> cases primS x <;> simp)
  ·rintro ⟨h1, h2⟩ x hx
   rw [ih x hx, h1 x hx]
   have := h2 x hx
   revert this; cases primS x <;> simp
 have hst : stC n d fd true = (stC n d fd false && !(n.op == 3 || (n.op == 12 || n.op == 39))) := by
  unfold stC
  by_cases h1 : (n.op == 10 || n.op == 37) = true
  ·have a3 : (n.op == 3) = false := by rw [Bool.eq_false_iff]; intro hc; simp at hc h1; omega
   have a12 : (n.op == 12) = false := by rw [Bool.eq_false_iff]; intro hc; simp at hc h1; omega
   have a39 : (n.op == 39) = false := by rw [Bool.eq_false_iff]; intro hc; simp at hc h1; omega
   simp [h1, a3, a12, a39]
  ·have h1' : (n.op == 10 || n.op == 37) = false := by simpa using h1
   by_cases h2 : (n.op == 54) = true
   ·have a3 : (n.op == 3) = false := by rw [Bool.eq_false_iff]; intro hc; simp at hc h2; omega
    have a12 : (n.op == 12) = false := by rw [Bool.eq_false_iff]; intro hc; simp at hc h2; omega
    have a39 : (n.op == 39) = false := by rw [Bool.eq_false_iff]; intro hc; simp at hc h2; omega
    rw [h1', h2, a3, a12, a39]; simp
   ·have h2' : (n.op == 54) = false := by simpa using h2
    rw [h1', h2']
    cases (n.op == 3) <;> cases (n.op == 12) <;> cases (n.op == 39) <;> simp
 have hfl : (fun k => okS k (d || n.op == 12) (fd || n.op == 39) (true || n.op == 54)) = fun k => okS k (d || n.op == 12) (fd || n.op == 39) true := by funext k; rw [Bool.true_or]
 rw [hfl, hst]
 by_cases h54 : (n.op == 54) = true
 ·have a3 : (n.op == 3) = false := by rw [Bool.eq_false_iff]; intro hc; simp at hc h54; omega
  have a12 : (n.op == 12) = false := by rw [Bool.eq_false_iff]; intro hc; simp at hc h54; omega
  have a39 : (n.op == 39) = false := by rw [Bool.eq_false_iff]; intro hc; simp at hc h54; omega
  simp only [a12, a39, Bool.or_false] at hk
  simp only [h54, a3, a12, a39, Bool.or_true, Bool.or_false, Bool.not_false, Bool.and_true, Bool.false_or, hk]
  cases numC n <;> cases nameC n <;> cases stC n d fd false <;> cases ((n.kids.map fun x => sortS x.op) == sortsC n) <;> cases (n.kids.all fun k => okS k d fd false) <;> cases n.kids.any primS <;> cases lastC n <;> rfl
 ·have h54' : (n.op == 54) = false := by simpa using h54
  rw [h54', hk]
  simp only [Bool.or_false]
  cases numC n <;> cases nameC n <;> cases stC n d fd false <;> cases ((n.kids.map fun x => sortS x.op) == sortsC n) <;> cases (n.kids.all fun k => okS k (d || n.op == 12) (fd || n.op == 39) false) <;> cases n.kids.any primS <;> cases lastC n <;> cases (n.op == 3 || (n.op == 12 || n.op == 39)) <;> rfl
theorem Natural_eq {K : Nat} {r : RatA} (hw : r.words) : ∃ z, r08_Natural K r 20 = some z ∧ decide (0 ≤ z) = (((r.num.length : Int) == 0) || ((r.num.length : Int) == 1) && (r.num[0]?).all fun w => decide (w ≤ 20)) := by
 unfold r08_Natural
 by_cases h0 : r.num.length = 0
 ·have e : ((r.num.length : Int) == 0) = true := by simp [h0]
  exact ⟨0, by rw [e]; rfl, by rw [e]; rfl⟩
 have e : ((r.num.length : Int) == 0) = false := int_ne0 h0
 have hx : r.num[0]? = some r.num[0] := List.getElem?_eq_getElem (by omega)
 have i0 : idx r.num 0 = some r.num[0] := by rw [← hx]; exact idx_nat (k := 0)
 have hb := hw.1 r.num[0] (List.getElem_mem (by omega))
 have ew : IntKind.wrap .i64 r.num[0] = r.num[0] := w64 (by omega) (by omega)
 simp only [e, Bool.false_eq_true, if_false, i0, hx, Option.bind_some, ew, Option.all_some, Bool.false_or]
 by_cases h1 : r.num.length = 1
 ·have e1 : decide ((1 : Int) < (r.num.length : Int)) = false := by simp; omega
  have e2 : ((r.num.length : Int) == 1) = true := by simp [h1]
  simp only [e1, e2, Bool.false_eq_true, if_false, Option.bind_some, Bool.true_and]
  by_cases h2 : r.num[0] ≤ 20
  ·have e3 : decide ((20 : Int) < r.num[0]) = false := by simp; omega
   refine ⟨r.num[0], by rw [e3]; rfl, ?_⟩
   rw [decide_eq_true h2, decide_eq_true hb.1]
  ·have e3 : decide ((20 : Int) < r.num[0]) = true := by simp; omega
   refine ⟨-1, by rw [e3]; rfl, ?_⟩
   rw [decide_eq_false h2]; rfl
 ·have e1 : decide ((1 : Int) < (r.num.length : Int)) = true := by simp; omega
  have e2 : ((r.num.length : Int) == 1) = false := by simp; omega
  refine ⟨-1, by rw [e1]; rfl, ?_⟩
  rw [e2]; rfl
theorem flow_eq {n : NodeA} (h54 : n.op = 54) (t f : Bool) :
  (decide (2 ≤ n.kids.length) && (!n.kids.any primS && ((n.kids[n.kids.length - 1]?).all (fun x => sortS x.op == 2 && okS x t f false) && (List.range (n.kids.length - 1)).all fun i => (n.kids[i]?).all fun x =>
   !(x.op == 56 && decide ((i : Int) < ((n.kids.length - 2 : Nat) : Int)) || (x.op != 56 && x.op != 55 || !(sortS x.op == 4 && okS x t f false))) && (n.kids.take i).all fun y => !(x.op == 55 && y.name.toList == x.name.toList)))) =
  (stC n t f false && ((n.kids.map fun x => sortS x.op) == sortsC n && n.kids.all fun k => okS k t f true)) := by
 have e1 : (n.op == 10 || n.op == 37) = false := by rw [h54]; rfl
 have e2 : (n.op == 54) = true := by rw [h54]; rfl
 unfold stC sortsC
 rw [e1, e2]
 simp only [Bool.false_eq_true, if_false, if_true]
 by_cases h2 : 2 ≤ n.kids.length
 ·rw [decide_eq_true h2, Bool.true_and, Bool.true_and, Bool.eq_iff_iff]
  have hl : n.kids.length - 1 < n.kids.length := by omega
  rw [List.getElem?_eq_getElem hl, Option.all_some]
  simp only [Bool.and_eq_true, List.all_eq_true, Bool.not_eq_true', List.any_eq_false, List.mem_range, okS_fl]
  have hget : ∀ i (hi : i < n.kids.length), n.kids[i]? = some n.kids[i] := fun i hi => List.getElem?_eq_getElem hi
  have hmap : ((n.kids.map fun x => sortS x.op) == List.replicate (n.kids.length - 1) 4 ++ [2]) = true ↔ (sortS n.kids[n.kids.length - 1].op = 2 ∧ ∀ i (hi : i < n.kids.length - 1), sortS (n.kids[i]'(by omega)).op = 4) := by
   rw [beq_iff_eq]
   constructor
   ·intro h
    have hg : ∀ i (hi : i < n.kids.length), sortS n.kids[i].op = (List.replicate (n.kids.length - 1) (4 : Int) ++ [2])[i]'(by simp; omega) := fun i hi => by
     have : (n.kids.map fun x => sortS x.op)[i]'(by simpa using hi) = sortS n.kids[i].op := by simp
     rw [← this]
     congr 1
    refine ⟨?_, fun i hi => ?_⟩
    ·rw [hg _ hl, List.getElem_append_right (by simp)]; simp
    ·rw [hg i (by omega), List.getElem_append_left (by simpa using hi)]; simp
   ·rintro ⟨h3, h4⟩
    refine List.ext_getElem (by simp; omega) fun i hi1 hi2 => ?_
    rw [List.getElem_map]
    by_cases hi : i < n.kids.length - 1
    ·rw [List.getElem_append_left (by simpa using hi), List.getElem_replicate]; exact h4 i hi
    ·have : i = n.kids.length - 1 := by simp at hi1; omega
     subst this
     rw [List.getElem_append_right (by simp)]; simpa using h3
  rw [hmap]
  constructor
  ·rintro ⟨hp, ⟨hs, ho⟩, hall⟩
   have at' : ∀ i (hi : i < n.kids.length - 1), (!(n.kids[i].op == 56 && decide ((i : Int) < ((n.kids.length - 2 : Nat) : Int)) || (n.kids[i].op != 56 && n.kids[i].op != 55 || !(sortS n.kids[i].op == 4 && okS n.kids[i] t f false)))) = true ∧ ∀ y ∈ n.kids.take i, (n.kids[i].op == 55 && y.name.toList == n.kids[i].name.toList) = false := fun i hi => by
    have := hall i hi
    rw [hget i (by omega), Option.all_some] at this
    simpa only [Bool.and_eq_true, List.all_eq_true, Bool.not_eq_true'] using this
   refine ⟨fun i hi => ?_, ⟨by simpa using hs, fun i hi => ?_⟩, fun x hx => ?_⟩
   ·obtain ⟨h3, h4⟩ := at' i hi
    unfold flowK
    rw [hget i (by omega), Option.all_some, Bool.and_eq_true]
    refine ⟨?_, ?_⟩
    ·simp at h3 ⊢; omega
    ·simp only [List.all_eq_true, Bool.not_eq_true']; exact h4
   ·obtain ⟨h3, _⟩ := at' i hi
    simp at h3; exact h3.2.2.1
   ·obtain ⟨i, hi, rfl⟩ := List.mem_iff_getElem.1 hx
    refine ⟨?_, by simpa using hp _ hx⟩
    by_cases hi' : i < n.kids.length - 1
    ·obtain ⟨h3, _⟩ := at' i hi'
     simp at h3; exact h3.2.2.2
    ·have : i = n.kids.length - 1 := by omega
     subst this; exact ho
  ·rintro ⟨hf, ⟨hs, h4⟩, hk⟩
   refine ⟨fun x hx => by have := (hk x hx).2; simp [this], ⟨by simpa using hs, (hk _ (List.getElem_mem hl)).1⟩, fun i hi => ?_⟩
   have := hf i hi
   unfold flowK at this
   rw [hget i (by omega), Option.all_some] at this ⊢
   simp only [Bool.and_eq_true, List.all_eq_true, Bool.not_eq_true'] at this ⊢
   refine ⟨?_, this.2⟩
   have h5 := (hk _ (List.getElem_mem (show i < n.kids.length by omega))).1
   have h6 := h4 i hi
   have h7 := this.1
   simp at h7 ⊢
   refine ⟨by omega, by omega, h6, h5⟩
 ·rw [decide_eq_false h2]; rfl
def kidV (n : NodeA) : ByteArray := if (n.op == 10 || n.op == 37) then (if ((n.kids.length : Int) == 1) then ⟨#[49]⟩ else kidB n.op) else kidB n.op
def digs (v : ByteArray) : List Int := v.toList.map fun c => (c.toNat : Int) - 48
def lastW (n : NodeA) : Bool := if n.op == 39 then (n.kids[0]?).all diffS else lastC n
theorem size_toList (v : ByteArray) : v.toList.length = v.size := by rw [bytes_toList]; exact Array.length_toList
theorem strAt_list {v : ByteArray} {i : Nat} (h : i < v.size) : ∃ c : UInt8, strAt v (i : Int) = some c ∧ v.toList[i]? = some c := by
 refine ⟨v[i], (strAt_get h).1, ?_⟩
 rw [bytes_toList, Array.getElem?_toList]
 exact Array.getElem?_eq_getElem h
theorem kidV_ok {n : NodeA} (hs : sortS n.op ≠ 0) : (∀ c ∈ (kidV n).toList, 48 ≤ c.toNat ∧ c.toNat ≤ 57) ∧ (∀ z ∈ digs (kidV n), z ≠ 0) := by
 have htab := tab hs
 have h1 : ∀ c ∈ (⟨#[49]⟩ : ByteArray).toList, c = 49 := by
  intro c hc; rw [bytes_toList] at hc; exact List.mem_singleton.1 hc
 have hk : ∀ z ∈ digs (kidB n.op), z ≠ 0 := by unfold digs; rw [htab.2.1]; exact htab.2.2.2.2.2.2.2
 unfold kidV
 split
 ·split
  ·refine ⟨fun c hc => by rw [h1 c hc]; decide, fun z hz => ?_⟩
   unfold digs at hz
   obtain ⟨c, hc, rfl⟩ := List.mem_map.1 hz
   rw [h1 c hc]; decide
  ·exact ⟨htab.2.2.1, hk⟩
 ·exact ⟨htab.2.2.1, hk⟩
theorem well_side {n : NodeA} {t f : Bool} (hs : sortS n.op ≠ 0) (h54 : (n.op == 54) = false) (hC : (t && n.op == 12 || (t || f) && n.op == 3) = false) (A : Bool) :
  (stC n t f false && ((n.kids.map fun x => sortS x.op) == sortsC n && (A && lastC n))) = ((n.kids.map fun x => sortS x.op) == digs (kidV n) && (A && lastW n)) := by
 have htab := tab hs
 by_cases h10 : (n.op == 10 || n.op == 37) = true
 ·obtain ⟨hs0, hn0⟩ := htab.2.2.2.1 (by rw [h10]; rfl)
  have a39 : (n.op == 39) = false := by rw [Bool.eq_false_iff]; intro hc; simp at hc h10; omega
  have hk : digs (kidB n.op) = [] := by unfold digs; rw [htab.2.1, hs0]; rfl
  have e1 : stC n t f false = decide (n.kids.length ≤ 1) := by unfold stC; rw [if_pos h10]
  have e2 : sortsC n = List.replicate n.kids.length 1 := by unfold sortsC; rw [if_pos h10]
  have e3 : lastW n = lastC n := by unfold lastW; rw [a39]; rfl
  rw [e1, e2, e3]
  unfold kidV
  rw [if_pos h10]
  by_cases h1 : n.kids.length = 1
  ·have : ((n.kids.length : Int) == 1) = true := by simp [h1]
   rw [this, if_pos rfl, h1]
   have : digs ⟨#[49]⟩ = [1] := by unfold digs; rw [bytes_toList]; rfl
   rw [this]; rfl
  ·have : ((n.kids.length : Int) == 1) = false := by rw [beq_eq_false_iff_ne]; omega
   rw [this]
   simp only [Bool.false_eq_true, if_false, hk]
   by_cases h0 : n.kids.length = 0
   ·rw [h0]; rfl
   ·have e : decide (n.kids.length ≤ 1) = false := by simp; omega
    have : ((n.kids.map fun x => sortS x.op) == ([] : List Int)) = false := by
     rw [beq_eq_false_iff_ne]; intro hq; apply h0; simpa using congrArg List.length hq
    rw [e, this]; rfl
 ·have h10' : (n.op == 10 || n.op == 37) = false := by simpa using h10
  have e2 : sortsC n = digs (kidV n) := by
   unfold sortsC kidV digs; rw [h10', h54]; exact htab.2.1.symm
  rw [e2]
  have e1 : stC n t f false = if n.op == 39 then !(((n.kids.length : Int) != 1) || !((n.kids[0]?).all diffS)) else true := by
   unfold stC
   rw [h10', h54]
   by_cases h3 : (n.op == 3) = true
   ·have a39 : (n.op == 39) = false := by rw [Bool.eq_false_iff]; intro hc; simp at hc h3; omega
    have a12 : (n.op == 12) = false := by rw [Bool.eq_false_iff]; intro hc; simp at hc h3; omega
    rw [h3, a12] at hC
    rw [h3, a39]
    revert hC; cases t <;> cases f <;> simp
   ·have h3' : (n.op == 3) = false := by simpa using h3
    by_cases h12 : (n.op == 12) = true
    ·have a39 : (n.op == 39) = false := by rw [Bool.eq_false_iff]; intro hc; simp at hc h12; omega
     rw [h3', h12] at hC
     rw [h3', h12, a39]
     revert hC; cases t <;> simp
    ·have h12' : (n.op == 12) = false := by simpa using h12
     rw [h3', h12']; simp
  rw [e1]
  by_cases h39 : (n.op == 39) = true
  ·have hlast : lastC n = true := by
    unfold lastC
    have a8 : (n.op == 8) = false := by rw [Bool.eq_false_iff]; intro hc; simp at hc h39; omega
    have a9 : (n.op == 9) = false := by rw [Bool.eq_false_iff]; intro hc; simp at hc h39; omega
    rw [a8, a9]; rfl
   have hd : digs (kidV n) = [2] := by rw [← e2]; unfold sortsC; rw [h10', h54, htab.2.2.2.2.1 (by simpa using h39)]; rfl
   have e3 : lastW n = (n.kids[0]?).all diffS := by unfold lastW; rw [h39]; rfl
   rw [h39, hlast, e3, hd]
   simp only [if_true, Bool.and_true]
   cases hm : ((n.kids.map fun x => sortS x.op) == ([2] : List Int)) with
   | false => simp
   | true =>
    have hl : n.kids.length = 1 := by have := congrArg List.length (eq_of_beq hm); simpa using this
    have : ((n.kids.length : Int) != 1) = false := by simp [hl]
    rw [this]
    cases (n.kids[0]?).all diffS <;> cases A <;> rfl
  ·have h39' : (n.op == 39) = false := by simpa using h39
   have e3 : lastW n = lastC n := by unfold lastW; rw [h39']; rfl
   rw [h39', e3]; rfl
theorem well_iter {K : Nat} (hK : 12 < K) : ∀ (k : Nat),
  (∀ (n : NodeA) (s : Int) (t f : Bool), 2 * n.size ≤ k → 2 * n.size ≤ K → n.size ≤ big → n.words → s ≠ 0 → (grp_r08_well K k).1 (n, s, t, f) = some (sortS n.op == s && okS n t f false)) ∧
  (∀ (n : NodeA) (t f : Bool), 2 * n.size ≤ k + 1 → 2 * n.size ≤ K → n.size ≤ big → n.words → n.op = 54 → (grp_r08_well K k).2 (n, t, f) = some (stC n t f false && ((n.kids.map fun x => sortS x.op) == sortsC n && n.kids.all fun k => okS k t f true))) := by
 intro k
 induction k with
 | zero => exact ⟨fun n s t f h => by have := n.size_pos; omega, fun n t f h => by have := n.size_pos; omega⟩
 | succ k ih =>
  obtain ⟨ih1, ih2⟩ := ih
  refine ⟨fun n s t f h hK2 hb hw hs => ?_, fun n t f h hK2 hb hw h54 => ?_⟩
  ·show r08_well_body K (grp_r08_well K k).1 (grp_r08_well K k).2 n s t f = _
   generalize (grp_r08_well K k).1 = S1 at ih1 ⊢
   generalize (grp_r08_well K k).2 = S2 at ih2 ⊢
   have hl := n.kids_lt
   have hbig : n.size ≤ 1099511627776 := hb
   unfold r08_well_body
   simp only [r08_Sort_eq, r08_named_eq, r08_Name_eq hK, Option.bind_some]
   by_cases hsort : sortS n.op = s
   ·subst hsort
    have htab := tab hs
    have e0 : (sortS n.op != sortS n.op) = false := by simp
    have e0' : (sortS n.op == sortS n.op) = true := by simp
    rw [e0, e0', Bool.true_and, okS_eq]
    simp only [Bool.false_eq_true, if_false]
    refine ob (if nameC n then .go () else .out false) ?_ ?_
    ·unfold nameC
     rw [htab.1]
     have hem : ((n.name.toList == (⟨#[]⟩ : ByteArray).toList) = true → nameB n.name = false) := emptyB_name
     have hem' : (n.name.toList == (⟨#[]⟩ : ByteArray).toList) = emptyB n.name := rfl
     rw [hem'] at hem ⊢
     revert hem
     cases (namedS n.op || (n.op == 10 || n.op == 37)) <;> cases nameB n.name <;> cases emptyB n.name <;> simp [outM]
    cases hB : nameC n with
    | false => simp [Out.fin]
    | true =>
    simp only [if_true, Out.fin_go]
    refine ob _ num_join' ?_
    cases hA : numC n with
    | false => rfl
    | true =>
    simp only [if_true, Out.fin_go, Bool.true_and]
    refine ob (if !(t && n.op == 12 || (t || f) && n.op == 3) then .go () else .out false) ?_ ?_
    ·cases t <;> cases f <;> cases (n.op == 12) <;> cases (n.op == 3) <;> rfl
    by_cases hC : (t && n.op == 12 || (t || f) && n.op == 3) = true
    ·have : stC n t f false = false := by
      unfold stC
      have h12 : (n.op == 12) = true ∨ (n.op == 3) = true := by
       revert hC; cases t <;> cases f <;> cases (n.op == 12) <;> cases (n.op == 3) <;> simp
      have a10 : (n.op == 10 || n.op == 37) = false := by rw [Bool.eq_false_iff]; intro hc; simp at hc h12; omega
      have a54 : (n.op == 54) = false := by rw [Bool.eq_false_iff]; intro hc; simp at hc h12; omega
      rw [a10, a54]
      rcases h12 with h12 | h12
      ·have a3 : (n.op == 3) = false := by rw [Bool.eq_false_iff]; intro hc; simp at hc h12; omega
       rw [h12, a3] at hC ⊢
       revert hC; cases t <;> cases f <;> simp
      ·have a12 : (n.op == 12) = false := by rw [Bool.eq_false_iff]; intro hc; simp at hc h12; omega
       rw [h12, a12] at hC ⊢
       revert hC; cases t <;> cases f <;> simp
     rw [hC, this]; rfl
    have hC' : (t && n.op == 12 || (t || f) && n.op == 3) = false := by simpa using hC
    rw [hC']
    simp only [Bool.not_false, if_true, Out.fin_go]
    by_cases h54 : (n.op == 54) = true
    ·have a12 : (n.op == 12) = false := by rw [Bool.eq_false_iff]; intro hc; simp at hc h54; omega
     have a39 : (n.op == 39) = false := by rw [Bool.eq_false_iff]; intro hc; simp at hc h54; omega
     have hlast : lastC n = true := by
      unfold lastC
      have a8 : (n.op == 8) = false := by rw [Bool.eq_false_iff]; intro hc; simp at hc h54; omega
      have a9 : (n.op == 9) = false := by rw [Bool.eq_false_iff]; intro hc; simp at hc h54; omega
      rw [a8, a9]; rfl
     rw [h54, a12, a39, hlast]
     simp only [if_true, Bool.or_false, Bool.or_true, Bool.and_true]
     rw [ih2 n t f (by omega) hK2 hb hw (by simpa using h54)]; rfl
    have h54' : (n.op == 54) = false := by simpa using h54
    simp only [h54', Bool.false_eq_true, if_false, r08_kids_eq, Option.bind_some, orO, Bool.or_false]
    rw [well_side hs h54' hC']
    obtain ⟨hv1, hv2⟩ := kidV_ok hs
    refine ob (kidV n) (by unfold kidV; cases (n.op == 10 || n.op == 37) <;> cases ((n.kids.length : Int) == 1) <;> rfl) ?_
    have hdl : (digs (kidV n)).length = (kidV n).size := by unfold digs; rw [List.length_map, size_toList]
    by_cases hlen : n.kids.length = (digs (kidV n)).length
    ·have e : (((kidV n).size : Int) != (n.kids.length : Int)) = false := by rw [hlen, hdl]; simp
     simp only [e, Bool.false_eq_true, if_false]
     refine ob (if ((n.kids.map fun x => sortS x.op) == digs (kidV n) && n.kids.all (fun k => okS k (t || n.op == 12) (f || n.op == 39) false)) then .go () else .out false) ?_ ?_
     ·rw [← map_eq hlen (fun k => okS k (t || n.op == 12) (f || n.op == 39) false)]
      refine scanG n.kids.length (fun i => (i : Int)) _ false () (fun g i hi => ?_) (fun g => ?_) (by omega) rfl
      ·have hx : n.kids[i]? = some n.kids[i] := List.getElem?_eq_getElem hi
       have hm := List.getElem_mem hi
       have hs' := NodeA.size_lt hm
       have hbk : n.kids[i].size ≤ big := by unfold big; omega
       obtain ⟨c, hc1, hc2⟩ := strAt_list (v := kidV n) (i := i) (by omega)
       have hcm := hv1 c (List.mem_of_getElem? hc2)
       have hy : (digs (kidV n))[i]? = some ((c.toNat : Int) - 48) := by unfold digs; rw [List.getElem?_map, hc2]; rfl
       have hy0 := hv2 _ (List.mem_of_getElem? hy)
       have hd : decide ((i : Int) < ((kidV n).size : Int)) = true := by simp; omega
       have e1 : IntKind.wrap .i64 (IntKind.wrap .u8 ((c.toNat : Int) - 48)) = (c.toNat : Int) - 48 := by
        have : IntKind.wrap .u8 ((c.toNat : Int) - 48) = (c.toNat : Int) - 48 := by
         simp only [IntKind.wrap, IntKind.bits, IntKind.signed, Bool.false_and]
         simp; omega
        rw [this, w64 (by omega) (by omega)]
       simp only [hd, if_true, idx_nat, hx, hc1, hy, Option.bind_some, e1, Option.all_some]
       generalize (c.toNat : Int) - 48 = z at hy0
       have ih' : ∀ a b, S1 (n.kids[i], z, a, b) = some (sortS n.kids[i].op == z && okS n.kids[i] a b false) := fun a b => ih1 n.kids[i] z a b (by omega) (by omega) hbk (NodeA.words_kid hw hm) hy0
       simp only [ih', Option.bind_some]
       rw [w64s (by omega)]
       have e2 : (sortS n.kids[i].op != z) = !(sortS n.kids[i].op == z) := rfl
       rw [e2]
       cases t <;> cases f <;> simp only [Bool.false_eq_true, if_false, if_true, Bool.false_or, Bool.true_or, Bool.not_not] <;> cases (sortS n.kids[i].op == z) <;> (try rfl) <;> generalize okS n.kids[i] _ _ false = q <;> cases q <;> rfl
      ·have hd : decide ((n.kids.length : Int) < ((kidV n).size : Int)) = false := by simp; omega
       simp only [hd, Bool.false_eq_true, if_false]
     ·rw [← Bool.and_assoc ((n.kids.map fun x => sortS x.op) == digs (kidV n))]
      cases hD : ((n.kids.map fun x => sortS x.op) == digs (kidV n) && n.kids.all (fun k => okS k (t || n.op == 12) (f || n.op == 39) false)) with
      | false => rfl
      | true =>
       simp only [if_true, Out.fin_go, Bool.true_and]
       have hmap : (n.kids.map fun x => sortS x.op) = digs (kidV n) := by
        revert hD; cases hq : ((n.kids.map fun x => sortS x.op) == digs (kidV n)) with
        | false => simp
        | true => intro _; exact eq_of_beq hq
       unfold lastW
       by_cases h89 : (n.op == 8 || n.op == 9) = true
       ·have a10 : (n.op == 10 || n.op == 37) = false := by rw [Bool.eq_false_iff]; intro hc; simp at hc h89; omega
        have a39 : (n.op == 39) = false := by rw [Bool.eq_false_iff]; intro hc; simp at hc h89; omega
        have h2 : n.kids.length = 2 := by
         rw [hlen]; unfold kidV digs
         rw [a10]
         simp only [Bool.false_eq_true, if_false]
         rw [htab.2.1, htab.2.2.2.2.2.1 h89]; rfl
        have hx : n.kids[1]? = some n.kids[1] := List.getElem?_eq_getElem (by omega)
        have i1 : idx n.kids 1 = some n.kids[1] := by rw [← hx]; exact idx_nat (k := 1)
        have hwk := NodeA.words_num (NodeA.words_kid hw (List.getElem_mem (show 1 < n.kids.length by omega)))
        obtain ⟨z, hz1, hz2⟩ := Natural_eq (K := K) hwk
        unfold lastC
        simp only [i1, hx, Option.bind_some, Option.all_some, hz1, hz2, a39, Bool.false_eq_true, if_false]
        cases (n.op == 8) with
        | true => cases (n.kids[1].op == 1) <;> rfl
        | false =>
         cases (n.op == 9) with
         | false => rfl
         | true => cases (n.kids[1].op == 1) <;> rfl
       ·have h8 : (n.op == 8) = false := by revert h89; cases (n.op == 8) <;> simp
        have h9 : (n.op == 9) = false := by revert h89; cases (n.op == 9) <;> simp
        unfold lastC
        rw [h8, h9]
        by_cases h39 : (n.op == 39) = true
        ·have a10 : (n.op == 10 || n.op == 37) = false := by rw [Bool.eq_false_iff]; intro hc; simp at hc h39; omega
         have h1 : n.kids.length = 1 := by
          rw [hlen]; unfold kidV digs
          rw [a10]
          simp only [Bool.false_eq_true, if_false]
          rw [htab.2.1, htab.2.2.2.2.1 (by simpa using h39)]; rfl
         have hx : n.kids[0]? = some n.kids[0] := List.getElem?_eq_getElem (by omega)
         have i0 : idx n.kids 0 = some n.kids[0] := by rw [← hx]; exact idx_nat (k := 0)
         have hs0 := NodeA.size_lt (List.getElem_mem (show 0 < n.kids.length by omega))
         simp only [h39, Bool.false_eq_true, if_false, if_true, i0, hx, Option.bind_some, Option.all_some, r08_differential_eq (show n.kids[0].size ≤ K by omega) (show n.kids[0].size ≤ 4611686018427387904 by omega)]
        ·have h39' : (n.op == 39) = false := by simpa using h39
         rw [h39']; rfl
    ·have e : (((kidV n).size : Int) != (n.kids.length : Int)) = true := by rw [← hdl]; simp; omega
     have e2 : ((n.kids.map fun x => sortS x.op) == digs (kidV n)) = false := by
      rw [beq_eq_false_iff_ne]; intro hq; apply hlen; rw [← hq]; simp
     rw [e, e2]; rfl
   ·have e0 : (sortS n.op != s) = true := by simpa using hsort
    have e1 : (sortS n.op == s) = false := by simpa using hsort
    rw [e0, e1]; rfl
  ·show r08_flow_body K (grp_r08_well K k).1 (grp_r08_well K k).2 n t f = _
   generalize (grp_r08_well K k).1 = S1 at ih1 ⊢
   generalize (grp_r08_well K k).2 = S2 at ih2 ⊢
   rw [← flow_eq h54]
   have hl := n.kids_lt
   have hbig : n.size ≤ 1099511627776 := hb
   have hprim : primS n = n.kids.any primS := by rw [primS_eq, h54]; rfl
   unfold r08_flow_body
   by_cases h2 : 2 ≤ n.kids.length
   ·have hd : decide ((n.kids.length : Int) < 2) = false := by simp; omega
    have e3 : IntKind.wrap .i64 ((n.kids.length : Int) - 1) = ((n.kids.length - 1 : Nat) : Int) := by rw [w64 (by omega) (by omega)]; omega
    have e4 : IntKind.wrap .i64 ((n.kids.length : Int) - 2) = ((n.kids.length - 2 : Nat) : Int) := by rw [w64 (by omega) (by omega)]; omega
    have hx : n.kids[n.kids.length - 1]? = some n.kids[n.kids.length - 1] := List.getElem?_eq_getElem (by omega)
    have hm : n.kids[n.kids.length - 1] ∈ n.kids := List.getElem_mem (by omega)
    have hsz := NodeA.size_lt hm
    simp only [hd, Bool.false_eq_true, if_false, r08_primed_eq (show n.size ≤ K by omega) (show n.size ≤ 4611686018427387904 by omega), Option.bind_some, e3, e4, idx_nat, hx,
     ih1 n.kids[n.kids.length - 1] 2 t f (by omega) (by omega) (by unfold big; omega) (NodeA.words_kid hw hm) (by omega), decide_eq_true h2, Bool.true_and, Option.all_some, hprim]
    cases hp : n.kids.any primS with
    | true => rfl
    | false =>
    simp only [Bool.false_eq_true, if_false, Bool.not_false, Bool.true_and, Option.bind_some]
    cases hlast : (sortS n.kids[n.kids.length - 1].op == 2 && okS n.kids[n.kids.length - 1] t f false) with
    | false => rfl
    | true =>
    simp only [Bool.not_true, Bool.false_eq_true, if_false, Option.bind_some, Out.fin_go, Bool.true_and]
    refine ob _ (scanG (n.kids.length - 1) (fun i => (i : Int)) (fun i => (n.kids[i]?).all fun (x : NodeA) =>
   !(x.op == 56 && decide ((i : Int) < ((n.kids.length - 2 : Nat) : Int)) || (x.op != 56 && x.op != 55 || !(sortS x.op == 4 && okS x t f false))) && (n.kids.take i).all fun y => !(x.op == 55 && y.name.toList == x.name.toList)) false () (fun g i hi => ?_) (fun g => ?_) (by omega) rfl) ?_
    ·have hi' : i < n.kids.length := by omega
     have hx : n.kids[i]? = some n.kids[i] := List.getElem?_eq_getElem hi'
     have hm := List.getElem_mem hi'
     have hs' := NodeA.size_lt hm
     have hbk : n.kids[i].size ≤ big := by unfold big; omega
     have hd : decide ((i : Int) < ((n.kids.length - 1 : Nat) : Int)) = true := by simp; omega
     have e56 : (n.kids[i].op != 56) = !(n.kids[i].op == 56) := rfl
     have e55 : (n.kids[i].op != 55) = !(n.kids[i].op == 55) := rfl
     simp only [hd, if_true, idx_nat, hx, Option.bind_some, ih1 n.kids[i] 4 t f (by omega) (by omega) hbk (NodeA.words_kid hw hm) (by omega), Option.all_some]
     rw [w64s (by omega)]
     refine ob (if (!(n.kids[i].op == 56 && decide ((i : Int) < ((n.kids.length - 2 : Nat) : Int)) || (n.kids[i].op != 56 && n.kids[i].op != 55 || !(sortS n.kids[i].op == 4 && okS n.kids[i] t f false))) && (n.kids.take i).all fun y => !(n.kids[i].op == 55 && y.name.toList == n.kids[i].name.toList)) then .go () else .out (.out false)) ?_ ?_
     ·refine ob (if !(n.kids[i].op == 56 && decide ((i : Int) < ((n.kids.length - 2 : Nat) : Int)) || (n.kids[i].op != 56 && n.kids[i].op != 55 || !(sortS n.kids[i].op == 4 && okS n.kids[i] t f false))) then .go () else .out (.out (.out false))) ?_ ?_
      ·rw [e56, e55]
       cases (n.kids[i].op == 56) <;> cases decide ((i : Int) < ((n.kids.length - 2 : Nat) : Int)) <;> cases (n.kids[i].op == 55) <;> cases (sortS n.kids[i].op == 4 && okS n.kids[i] t f false) <;> rfl
      ·cases (n.kids[i].op == 56 && decide ((i : Int) < ((n.kids.length - 2 : Nat) : Int)) || (n.kids[i].op != 56 && n.kids[i].op != 55 || !(sortS n.kids[i].op == 4 && okS n.kids[i] t f false))) with
       | true => rfl
       | false =>
        simp only [Bool.not_false, if_true, Out.fin_go, Bool.true_and]
        have hti : (n.kids.take i).length = i := by rw [List.length_take]; omega
        refine ob _ (scanG (n.kids.take i).length (fun j => (j : Int)) (fun j => ((n.kids.take i)[j]?).all fun y => !(n.kids[i].op == 55 && y.name.toList == n.kids[i].name.toList)) (.out (.out false)) () (fun g' j hj => ?_) (fun g' => ?_) (by omega) rfl) ?_
        ·have hy : (n.kids.take i)[j]? = some (n.kids.take i)[j] := List.getElem?_eq_getElem hj
         have hy' : n.kids[j]? = some (n.kids.take i)[j] := by rw [← hy, List.getElem?_take, if_pos (by omega)]
         have hd : decide ((j : Int) < (i : Int)) = true := by simp; omega
         simp only [hd, if_true, idx_nat, hy, hy', Option.bind_some, andO, Option.all_some]
         rw [w64s (by omega)]
         cases (n.kids[i].op == 55 && (n.kids.take i)[j].name.toList == n.kids[i].name.toList) <;> rfl
        ·have hd : decide (((n.kids.take i).length : Int) < (i : Int)) = false := by rw [hti]; simp
         simp only [hd, Bool.false_eq_true, if_false]
        ·rw [range_all]
         cases ((n.kids.take i).all fun y => !(n.kids[i].op == 55 && y.name.toList == n.kids[i].name.toList)) <;> rfl
     ·cases (!(n.kids[i].op == 56 && decide ((i : Int) < ((n.kids.length - 2 : Nat) : Int)) || (n.kids[i].op != 56 && n.kids[i].op != 55 || !(sortS n.kids[i].op == 4 && okS n.kids[i] t f false))) && (n.kids.take i).all fun y => !(n.kids[i].op == 55 && y.name.toList == n.kids[i].name.toList)) <;> rfl
    ·have hd : decide (((n.kids.length - 1 : Nat) : Int) < ((n.kids.length - 1 : Nat) : Int)) = false := by simp
     simp only [hd, Bool.false_eq_true, if_false]
    ·cases ((List.range (n.kids.length - 1)).all fun i => (n.kids[i]?).all fun x =>
   !(x.op == 56 && decide ((i : Int) < ((n.kids.length - 2 : Nat) : Int)) || (x.op != 56 && x.op != 55 || !(sortS x.op == 4 && okS x t f false))) && (n.kids.take i).all fun y => !(x.op == 55 && y.name.toList == x.name.toList)) <;> rfl
   ·have hd : decide ((n.kids.length : Int) < 2) = true := by simp; omega
    rw [hd, decide_eq_false h2]; rfl
end Go.Proofs.YtphmckfokdkecaaGreat
namespace Go.Proofs.YtphmckfokdkecaaGreat
open Go Go.Iso Go.Proofs
set_option linter.unusedSimpArgs false
set_option linter.unusedVariables false
set_option maxRecDepth 100000
/-! ### Check -/
def checkS (n : NodeA) (s : Int) : Int :=
 if decide (s < 1) || decide (3 < s) then 1 else if decide ((n.size : Int) ≤ 4000) && decide ((n.lev : Int) ≤ 60) then (if sortS n.op != s then 80 else if !okS n false false false then 3 else 0) else 2
theorem tree_Check_eq {K : Nat} {n : NodeA} {s : Int} (hK : 12 < K) (hK2 : 2 * n.size ≤ K) (hb : n.size ≤ big) : tree_Check K n s = some (checkS n s) := by
 unfold tree_Check checkS
 simp only [orO, Option.bind_some]
 cases hs : (decide (s < 1) || decide (3 < s)) with
 | true => rfl
 | false =>
  simp only [Bool.false_eq_true, if_false, Option.bind_some, Out.fin_go]
  obtain ⟨r, hr, hw⟩ := tree_within_eq (show n.size ≤ K by omega) hb
  rw [hr]
  simp only [Option.bind_some]
  unfold Within at hw
  by_cases hc : (n.size : Int) ≤ 4000 ∧ (n.lev : Int) ≤ 60
  ·rw [if_pos hc] at hw
   subst hw
   rw [decide_eq_true hc.1, decide_eq_true hc.2]
   simp only [Bool.not_true, Bool.false_eq_true, if_false, tree_Sort_eq, Option.bind_some, Bool.and_self, if_true]
   by_cases h2 : sortS n.op = s
   ·have e : (sortS n.op != s) = false := by simp [h2]
    have h0 : sortS n.op ≠ 0 := by rw [h2]; intro hz; subst hz; revert hs; decide
    rw [e]
    simp only [Bool.false_eq_true, if_false]
    have : tree_formed K n (Tree_placeA.mk false false false) = some (okS n false false false) := formed_iter hK K n ⟨false, false, false⟩ (by omega) (by omega) hb h0
    rw [this]
    simp only [Option.bind_some]
    cases okS n false false false <;> rfl
   ·have e : (sortS n.op != s) = true := by simp [h2]
    rw [e]; rfl
  ·rw [if_neg hc] at hw
   rw [hw]
   have : (decide ((n.size : Int) ≤ 4000) && decide ((n.lev : Int) ≤ 60)) = false := by
    rw [Bool.and_eq_false_iff, decide_eq_false_iff_not, decide_eq_false_iff_not]
    by_cases h1 : (n.size : Int) ≤ 4000
    ·exact .inr fun h2 => hc ⟨h1, h2⟩
    ·exact .inl h1
   rw [this]; rfl
theorem r08_well_eq {K : Nat} {n : NodeA} {s : Int} (hK : 12 < K) (hK2 : 2 * n.size ≤ K) (hb : n.size ≤ big) (hw : n.words) (hs : s ≠ 0) : r08_well K n s false false = some (sortS n.op == s && okS n false false false) :=
 (well_iter hK K).1 n s false false hK2 hK2 hb hw hs
theorem r08_Check_eq {K : Nat} {n : NodeA} {s : Int} (hK : 12 < K) (hK2 : 2 * n.size ≤ K) (hb : n.size ≤ big) (hw : n.words) : r08_Check K n s = some (checkS n s) := by
 unfold r08_Check checkS
 simp only [orO, Option.bind_some]
 cases hs : (decide (s < 1) || decide (3 < s)) with
 | true => rfl
 | false =>
  simp only [Bool.false_eq_true, if_false, r08_Size_eq (show n.size ≤ K by omega) hb, r08_Levels_eq (show n.size ≤ K by omega) hb, Option.bind_some, orO]
  by_cases hc : (n.size : Int) ≤ 4000 ∧ (n.lev : Int) ≤ 60
  ·have e1 : decide ((4000 : Int) < (n.size : Int)) = false := by simp; omega
   have e2 : decide ((60 : Int) < (n.lev : Int)) = false := by simp; omega
   rw [e1, e2, decide_eq_true hc.1, decide_eq_true hc.2]
   simp only [Bool.or_self, Bool.false_eq_true, if_false, r08_Sort_eq, Option.bind_some, Bool.and_self, if_true]
   by_cases h2 : sortS n.op = s
   ·have e : (sortS n.op != s) = false := by simp [h2]
    have e' : (sortS n.op == s) = true := by simp [h2]
    have h0 : s ≠ 0 := by intro hz; subst hz; revert hs; decide
    rw [e]
    simp only [Bool.false_eq_true, if_false, r08_well_eq hK hK2 hb hw h0, Option.bind_some, e', Bool.true_and]
    cases okS n false false false <;> rfl
   ·have e : (sortS n.op != s) = true := by simp [h2]
    rw [e]; rfl
  ·have : (decide ((n.size : Int) ≤ 4000) && decide ((n.lev : Int) ≤ 60)) = false := by
    rw [Bool.and_eq_false_iff, decide_eq_false_iff_not, decide_eq_false_iff_not]
    by_cases h1 : (n.size : Int) ≤ 4000
    ·exact .inr fun h2 => hc ⟨h1, h2⟩
    ·exact .inl h1
   have e : (decide ((4000 : Int) < (n.size : Int)) || decide ((60 : Int) < (n.lev : Int))) = true := by
    rw [Bool.or_eq_true, decide_eq_true_eq, decide_eq_true_eq]
    by_cases h1 : (n.size : Int) ≤ 4000
    ·exact .inr (by have : ¬ (n.lev : Int) ≤ 60 := fun h2 => hc ⟨h1, h2⟩; omega)
    ·exact .inl (by omega)
   rw [this, e]; rfl
/-! ### Nodes -/
def Fine (n : NodeA) : Prop := ∃ d fd fl, okS n d fd fl = true
theorem fine_kid {n k : NodeA} (h : Fine n) (hk : k ∈ n.kids) : Fine k := by
 obtain ⟨d, fd, fl, h⟩ := h
 rw [okS_eq] at h
 simp only [Bool.and_eq_true, List.all_eq_true] at h
 exact ⟨_, _, _, h.2.2.2.2.1 k hk⟩
end Go.Proofs.YtphmckfokdkecaaGreat
namespace Go.Proofs.YtphmckfokdkecaaGreat
open Go Go.Iso Go.Proofs
set_option linter.unusedSimpArgs false
set_option linter.unusedVariables false
set_option maxRecDepth 100000
def occB (o : Int) : NodeA → Bool
 | .mk op _ _ ks => op == o || ks.attach.any fun ⟨k, _⟩ => occB o k
termination_by n => SizeOf.sizeOf n
decreasing_by exact NodeA.size_kid (by assumption)
theorem occB_eq {o : Int} (n : NodeA) : occB o n = (n.op == o || n.kids.any (occB o)) := by
 cases n with | mk op m r ks => rw [occB]; simp [NodeA.op, NodeA.kids]
theorem scan_any {α : Type} {l : List α} {q : α → Bool} {K : Nat} (hl : l.length < K) (hb : l.length ≤ big) {f : (Int → Option (Out Unit Bool)) → Int → Option (Out Unit Bool)}
  (h1 : ∀ g (i : Nat) x, l[i]? = some x → f g i = if q x then some (.out true) else g (IntKind.wrap .i64 ((i : Int) + 1))) (h2 : ∀ g (i : Nat), l.length ≤ i → f g i = some (.go ())) : iter K f 0 = some (if l.any q then .out true else .go ()) := by
 unfold big at hb
 rw [scan l (fun x => !q x) true (by omega) (fun g i x hx => by rw [h1 g i x hx]; cases q x <;> rfl) h2 hl]
 have : l.all (fun x => !q x) = !l.any q := by rw [Bool.eq_iff_iff]; simp
 rw [this]
 cases l.any q <;> rfl
theorem lt_tn {i n : Nat} (h : i < n) : decide ((i : Int) < (n : Int)) = true := decide_eq_true (by omega)
theorem lt_fn {i n : Nat} (h : n ≤ i) : decide ((i : Int) < (n : Int)) = false := decide_eq_false (by omega)
def Few (r : RatA) : Prop := r.num.length ≤ 100 ∧ r.den.length ≤ 100
theorem natS_few {r : RatA} (h : natS r = true) : Few r := by
 unfold natS at h
 simp only [Bool.and_eq_true, decide_eq_true_eq] at h
 have hd : r.den = [1] := eq_of_beq h.1.1.2
 exact ⟨by omega, by rw [hd]; simp⟩
theorem fine_few {n : NodeA} (h : Fine n) : Few n.num := by
 obtain ⟨d, fd, fl, h⟩ := h
 rw [okS_eq] at h
 simp only [Bool.and_eq_true] at h
 have h := h.1
 unfold numC at h
 split at h
 ·exact natS_few h
 ·simp only [Bool.not_eq_true', Bool.or_eq_false_iff, decide_eq_false_iff_not] at h
  exact ⟨by omega, by omega⟩
theorem app_few {l : List Int} (h : l.length ≤ 100) : appO 4 [] l = some l := by
 unfold appO; rw [if_pos (by simp; omega)]; rfl
theorem app_few' {l : List Int} (h : l.length ≤ 100) : ((if (decide ((0 : Int) < (l.length : Int))) then (appO 4 [] l).bind fun l4 => some l4 else some []) : Option (List Int)) = some l := by
 cases l with
 | nil => rfl
 | cons a l => rw [app_few h]; simp
theorem copy_leaf {K : Nat} {op : Int} {m : ByteArray} {r : RatA} (h : Few r) (hK : 0 < K) : tree_Copy K (.mk op m r []) = some (.mk op m r []) := by
 obtain ⟨k, rfl⟩ : ∃ k, K = k + 1 := ⟨K - 1, by omega⟩
 unfold tree_Copy
 rw [iter_succ]
 generalize iter k (fun self q => tree_Copy_body (k + 1) self q) = S
 unfold tree_Copy_body
 simp only [NodeA.num_mk, NodeA.kids_mk, NodeA.op_mk, NodeA.name_mk]
 refine ob _ (app_few' h.1) (ob _ (app_few' h.2) (ob _ (iter_succ ..) ?_))
 rfl
theorem app_node {l : List NodeA} {x : NodeA} (h : l.length ≤ big) : appO 104 l [x] = some (l ++ [x]) := by
 unfold appO big at *
 rw [if_pos (by simp only [List.length_singleton]; omega)]
theorem words_refl {K : Nat} {l : List Int} (hl : l.length ≤ 100) (hK : 100 < K) : r08_words K l l = some 0 := by
 unfold r08_words
 have e : ((l.length : Int) != (l.length : Int)) = false := by simp
 rw [e]
 simp only [Bool.false_eq_true, if_false]
 refine ob (Out.go () : Out Unit Int) (foldG l.length (fun i => (l.length : Int) - 1 - (i : Int)) (Out.go () : Out Unit Int) (fun g i hi => ?_) (fun g => ?_) (by omega) ?_) rfl
 ·have hd : decide ((0 : Int) ≤ (l.length : Int) - 1 - (i : Int)) = true := decide_eq_true (by omega)
  have ez : (l.length : Int) - 1 - (i : Int) = ((l.length - 1 - i : Nat) : Int) := by omega
  have hx : l[l.length - 1 - i]? = some l[l.length - 1 - i] := List.getElem?_eq_getElem (by omega)
  simp only [hd, if_true, ez, idx_nat, hx, Option.bind_some, bne_self_eq_false, Bool.false_eq_true, if_false]
  rw [w64 (by omega) (by omega)]
  show g _ = g ((l.length : Int) - 1 - ((i + 1 : Nat) : Int))
  congr 1
  omega
 ·have hd : decide ((0 : Int) ≤ (l.length : Int) - 1 - (l.length : Int)) = false := decide_eq_false (by omega)
  simp only [hd, Bool.false_eq_true, if_false]
 ·rw [w64 (by omega) (by omega)]; simp
def FewN : NodeA → Prop
 | .mk _ _ r ks => Few r ∧ ks.length ≤ big ∧ ∀ k (h : k ∈ ks), FewN k
termination_by n => SizeOf.sizeOf n
decreasing_by exact NodeA.size_kid h
theorem FewN_mk {o : Int} {m : ByteArray} {r : RatA} {ks : List NodeA} : FewN (.mk o m r ks) = (Few r ∧ ks.length ≤ big ∧ ∀ k ∈ ks, FewN k) := by rw [FewN]
theorem FewN_num {n : NodeA} (h : FewN n) : Few n.num := by cases n; rw [FewN_mk] at h; exact h.1
theorem FewN_kid {n k : NodeA} (h : FewN n) (hk : k ∈ n.kids) : FewN k := by cases n; rw [FewN_mk] at h; exact h.2.2 k hk
theorem FewN_len {n : NodeA} (h : FewN n) : n.kids.length ≤ big := by cases n; rw [FewN_mk] at h; exact h.2.1
theorem fine_fewN : ∀ n : NodeA, Fine n → n.size ≤ big → FewN n := NodeA.ind fun n ih => by
 intro h hb
 have h1 := fine_few h
 have h2 : ∀ k ∈ n.kids, FewN k := fun k hk => ih k hk (fine_kid h hk) (by have := NodeA.size_lt hk; omega)
 have h3 := n.kids_lt
 cases n with | mk o m r ks => rw [FewN_mk]; exact ⟨h1, by simp only [NodeA.kids_mk] at h3; omega, h2⟩
theorem compare_refl {K : Nat} (hK2 : 100 < K) : ∀ (n : NodeA) (j : Nat), FewN n → n.size ≤ j → n.size ≤ K → n.size ≤ big → iter j (fun self q => r08_Compare_body K self q.1 q.2) (n, n) = some 0 := by
 refine NodeA.ind fun n ih => ?_
 intro j hf hj hK hb
 have hp := n.size_pos
 have hkl := n.kids_lt
 obtain ⟨j, rfl⟩ : ∃ i, j = i + 1 := ⟨j - 1, by omega⟩
 rw [iter_succ]
 have ih' : ∀ k ∈ n.kids, iter j (fun self q => r08_Compare_body K self q.1 q.2) (k, k) = some 0 := fun k hk => ih k hk j (FewN_kid hf hk) (by have := NodeA.size_lt hk; omega) (by have := NodeA.size_lt hk; omega) (by have := NodeA.size_lt hk; omega)
 generalize iter j (fun self q => r08_Compare_body K self q.1 q.2) = S at ih' ⊢
 unfold r08_Compare_body
 simp only
 have hless : ∀ z : Int, r08_less K z z = some 0 := fun z => by
  unfold r08_less
  have e : decide (z < z) = false := by simp
  rw [e]; rfl
 have e1 : (!(n.name.toList == n.name.toList)) = false := by simp
 have e2 : (!(n.num.neg == n.num.neg)) = false := by simp
 simp only [hless, Option.bind_some, bne_self_eq_false, Bool.false_eq_true, if_false, e1, e2, words_refl (FewN_num hf).1 hK2, words_refl (FewN_num hf).2 hK2]
 unfold big at hb
 refine ob (Out.go () : Out Unit Int) (foldG n.kids.length (fun i => (i : Int)) (Out.go () : Out Unit Int) (fun g i hi => ?_) (fun g => ?_) (by omega) rfl) rfl
 ·have hx : n.kids[i]? = some n.kids[i] := List.getElem?_eq_getElem hi
  simp only [lt_tn hi, if_true, idx_nat, hx, Option.bind_some, ih' _ (List.getElem_mem hi), bne_self_eq_false, Bool.false_eq_true, if_false]
  rw [w64s (by omega)]
 ·simp only [lt_fn (Nat.le_refl n.kids.length), Bool.false_eq_true, if_false]
theorem equal_refl {K : Nat} {n : NodeA} (hK2 : 100 < K) (hf : FewN n) (hK : n.size ≤ K) (hb : n.size ≤ big) : r08_Equal K n n = some true := by
 unfold r08_Equal r08_Compare
 rw [compare_refl hK2 n K hf hK hK hb]; rfl
abbrev zN : NodeA := NodeA.mk 0 ⟨#[]⟩ (RatA.mk false [] []) []
theorem copy_iter {K : Nat} : ∀ (n : NodeA) (j : Nat), FewN n → n.size ≤ j → n.size ≤ K → iter j (fun self q => tree_Copy_body K self q) n = some n := by
 refine NodeA.ind fun n ih => ?_
 intro j hf hj hK
 have hp := n.size_pos
 have hkl := n.kids_lt
 obtain ⟨j, rfl⟩ : ∃ i, j = i + 1 := ⟨j - 1, by omega⟩
 rw [iter_succ]
 have ih' : ∀ k ∈ n.kids, iter j (fun self q => tree_Copy_body K self q) k = some k := fun k hk => ih k hk j (FewN_kid hf hk) (by have := NodeA.size_lt hk; omega) (by have := NodeA.size_lt hk; omega)
 generalize iter j (fun self q => tree_Copy_body K self q) = S at ih' ⊢
 unfold tree_Copy_body
 have hb := FewN_len hf
 unfold big at hb
 have hq := FewN_num hf
 refine ob _ (app_few' hq.1) (ob _ (app_few' hq.2) (ob n.kids (foldG n.kids.length (fun i => ((i : Int), n.kids.take i)) _ (fun g i hi => ?_) (fun g => ?_) (by omega) rfl) ?_))
 ·have hx : n.kids[i]? = some n.kids[i] := List.getElem?_eq_getElem hi
  have hl : (n.kids.take i).length ≤ big := by rw [List.length_take]; unfold big; omega
  simp only [lt_tn hi, if_true, idx_nat, hx, Option.bind_some, ih' _ (List.getElem_mem hi), app_node hl]
  have et : n.kids.take (i + 1) = n.kids.take i ++ [n.kids[i]] := by rw [List.take_add_one, hx]; rfl
  rw [w64s (by omega), et]
 ·simp only [lt_fn (Nat.le_refl n.kids.length), Bool.false_eq_true, if_false, List.take_length]
 ·obtain ⟨o, m, ⟨a, b, c⟩, ks⟩ := n; rfl
theorem copy_eq {K : Nat} {n : NodeA} (hf : FewN n) (hK : n.size ≤ K) : tree_Copy K n = some n := copy_iter n K hf hK hK
theorem uses_iter {K : Nat} {l : List Int} (hl : l.length < K) (hlb : l.length ≤ big) : ∀ (n : NodeA) (j : Nat), FewN n → n.size ≤ j → n.size ≤ K → iter j (fun self q => static_Uses_body K self q.1 q.2) (n, l) = some (l.any fun o => occB o n) := by
 refine NodeA.ind fun n ih => ?_
 intro j hf hj hK
 have hb := FewN_len hf
 have hp := n.size_pos
 have hkl := n.kids_lt
 obtain ⟨j, rfl⟩ : ∃ i, j = i + 1 := ⟨j - 1, by omega⟩
 rw [iter_succ]
 have ih' : ∀ k ∈ n.kids, iter j (fun self q => static_Uses_body K self q.1 q.2) (k, l) = some (l.any fun o => occB o k) := fun k hk => ih k hk j (FewN_kid hf hk) (by have := NodeA.size_lt hk; omega) (by have := NodeA.size_lt hk; omega)
 have hsplit : (l.any fun o => occB o n) = ((l.any fun o => n.op == o) || n.kids.any fun k => l.any fun o => occB o k) := by
  rw [Bool.eq_iff_iff]
  simp only [Bool.or_eq_true, List.any_eq_true]
  constructor
  ·rintro ⟨o, ho, h⟩
   rw [occB_eq, Bool.or_eq_true, List.any_eq_true] at h
   rcases h with h | ⟨k, hk, h⟩
   ·exact .inl ⟨o, ho, h⟩
   ·exact .inr ⟨k, hk, o, ho, h⟩
  ·rintro (⟨o, ho, h⟩ | ⟨k, hk, o, ho, h⟩)
   ·exact ⟨o, ho, by rw [occB_eq, h]; rfl⟩
   ·exact ⟨o, ho, by rw [occB_eq, Bool.or_eq_true, List.any_eq_true]; exact .inr ⟨k, hk, h⟩⟩
 rw [hsplit]
 generalize iter j (fun self q => static_Uses_body K self q.1 q.2) = S at ih' ⊢
 unfold static_Uses_body
 simp only
 refine ob _ (scan_any (l := l) (q := fun o => n.op == o) hl hlb (fun g i x hx => ?_) fun g i hi => ?_) ?_
 ·obtain ⟨hlt, rfl⟩ := List.getElem?_eq_some_iff.1 hx
  simp only [lt_tn hlt, if_true, idx_nat, hx, Option.bind_some, outM_eq]
 ·simp only [lt_fn hi, Bool.false_eq_true, if_false]
 ·cases h : l.any fun o => n.op == o with
  | true => rfl
  | false =>
   simp only [Bool.false_eq_true, if_false, Out.fin_go, Bool.false_or]
   refine ob _ (scan_any (l := n.kids) (q := fun k => l.any fun o => occB o k) (by omega) (by omega) (fun g i x hx => ?_) fun g i hi => ?_) ?_
   ·obtain ⟨hlt, rfl⟩ := List.getElem?_eq_some_iff.1 hx
    simp only [lt_tn hlt, if_true, idx_nat, hx, Option.bind_some, ih' _ (List.getElem_mem hlt), outM_eq]
   ·simp only [lt_fn hi, Bool.false_eq_true, if_false]
   ·cases n.kids.any fun k => l.any fun o => occB o k <;> rfl
theorem uses_eq {K : Nat} {l : List Int} {n : NodeA} (hl : l.length < K) (hlb : l.length ≤ big) (hf : FewN n) (hK : n.size ≤ K) : static_Uses K n l = some (l.any fun o => occB o n) := uses_iter hl hlb n K hf hK hK
theorem contains_iter {K : Nat} {a b : Int} : ∀ (n : NodeA) (j : Nat), FewN n → n.size ≤ j → n.size ≤ K → iter j (fun self q => r08_Contains_body K self q.1 q.2.1 q.2.2) (n, a, b) = some (occB a n || occB b n) := by
 refine NodeA.ind fun n ih => ?_
 intro j hf hj hK
 have hb := FewN_len hf
 have hp := n.size_pos
 have hkl := n.kids_lt
 obtain ⟨j, rfl⟩ : ∃ i, j = i + 1 := ⟨j - 1, by omega⟩
 rw [iter_succ]
 have ih' : ∀ k ∈ n.kids, iter j (fun self q => r08_Contains_body K self q.1 q.2.1 q.2.2) (k, a, b) = some (occB a k || occB b k) := fun k hk => ih k hk j (FewN_kid hf hk) (by have := NodeA.size_lt hk; omega) (by have := NodeA.size_lt hk; omega)
 have hsplit : (occB a n || occB b n) = ((n.op == a || n.op == b) || n.kids.any fun k => occB a k || occB b k) := by
  rw [occB_eq, occB_eq n]
  have : (n.kids.any fun k => occB a k || occB b k) = (n.kids.any (occB a) || n.kids.any (occB b)) := by
   generalize n.kids = l
   induction l with
   | nil => rfl
   | cons x l ih => simp only [List.any_cons, ih]; cases occB a x <;> cases occB b x <;> cases l.any (occB a) <;> cases l.any (occB b) <;> rfl
  rw [this]
  cases n.op == a <;> cases n.op == b <;> cases n.kids.any (occB a) <;> cases n.kids.any (occB b) <;> rfl
 rw [hsplit]
 generalize iter j (fun self q => r08_Contains_body K self q.1 q.2.1 q.2.2) = S at ih' ⊢
 unfold r08_Contains_body
 simp only [orO, Option.bind_some, outM_eq]
 cases h : (n.op == a || n.op == b) with
 | true => rfl
 | false =>
  simp only [Bool.false_eq_true, if_false, Option.bind_some, Out.fin_go, Bool.false_or]
  refine ob _ (scan_any (l := n.kids) (q := fun k => occB a k || occB b k) (by omega) (by omega) (fun g i x hx => ?_) fun g i hi => ?_) ?_
  ·obtain ⟨hlt, rfl⟩ := List.getElem?_eq_some_iff.1 hx
   simp only [lt_tn hlt, if_true, idx_nat, hx, Option.bind_some, ih' _ (List.getElem_mem hlt), outM_eq]
  ·simp only [lt_fn hi, Bool.false_eq_true, if_false]
  ·cases n.kids.any fun k => occB a k || occB b k <;> rfl
theorem contains_eq {K : Nat} {a b : Int} {n : NodeA} (hf : FewN n) (hK : n.size ≤ K) : r08_Contains K n a b = some (occB a n || occB b n) := contains_iter n K hf hK hK
end Go.Proofs.YtphmckfokdkecaaGreat
namespace Go.Proofs.YtphmckfokdkecaaGreat
open Go Go.Iso Go.Proofs
set_option linter.unusedSimpArgs false
set_option linter.unusedVariables false
set_option maxRecDepth 100000
/-! ### Numbers as terms -/
def numN (k : Nat) : NodeA := .mk 1 ⟨#[]⟩ (.mk false (if k = 0 then [] else [(k : Int)]) [1]) []
theorem le20 {k : Nat} (h : k ≤ 20) : k = 0 ∨ k = 1 ∨ k = 2 ∨ k = 3 ∨ k = 4 ∨ k = 5 ∨ k = 6 ∨ k = 7 ∨ k = 8 ∨ k = 9 ∨ k = 10 ∨ k = 11 ∨ k = 12 ∨ k = 13 ∨ k = 14 ∨ k = 15 ∨ k = 16 ∨ k = 17 ∨ k = 18 ∨ k = 19 ∨ k = 20 := by omega
theorem num_eq' (K : Nat) {k : Nat} (h : k ≤ 20) : r08_Num (K + 100) (k : Int) = some (numN k) := by
 rcases le20 h with rfl | rfl | rfl | rfl | rfl | rfl | rfl | rfl | rfl | rfl | rfl | rfl | rfl | rfl | rfl | rfl | rfl | rfl | rfl | rfl | rfl <;> kernel_rfl
theorem num_eq {K k : Nat} (hK : 100 ≤ K) (h : k ≤ 20) : r08_Num K (k : Int) = some (numN k) := by
 obtain ⟨j, rfl⟩ : ∃ j, K = j + 100 := ⟨K - 100, by omega⟩
 exact num_eq' j h
theorem number_eq {K k : Nat} : diff_number K (k : Int) = some (numN k) := by
 unfold diff_number numN
 by_cases h : k = 0
 ·subst h; rfl
 ·rw [if_neg h, decide_eq_true (by omega)]; rfl
/-! ### The shape of a tree -/
def expS (n : NodeA) : Nat := match n.kids[1]? with
 | some x => (match x.num.num with | w :: _ => w.toNat | [] => 0)
 | none => 0
def Sh : NodeA → Prop
 | .mk o m r ks => (ks.map fun x => sortS x.op) = sortsC (.mk o m r ks) ∧ ((o = 10 ∨ o = 37) → ks.length ≤ 1) ∧
  (o = 9 → ∃ x, ks[1]? = some x ∧ x.op = 1 ∧ (x.num.num = [] ∨ ∃ w : Nat, w ≤ 20 ∧ x.num.num = [(w : Int)])) ∧ ∀ k (h : k ∈ ks), Sh k
termination_by n => SizeOf.sizeOf n
decreasing_by exact NodeA.size_kid h
theorem Sh_mk {o : Int} {m : ByteArray} {r : RatA} {ks : List NodeA} : Sh (.mk o m r ks) = ((ks.map fun x => sortS x.op) = sortsC (.mk o m r ks) ∧ ((o = 10 ∨ o = 37) → ks.length ≤ 1) ∧
  (o = 9 → ∃ x, ks[1]? = some x ∧ x.op = 1 ∧ (x.num.num = [] ∨ ∃ w : Nat, w ≤ 20 ∧ x.num.num = [(w : Int)])) ∧ ∀ k ∈ ks, Sh k) := by rw [Sh]
theorem Sh_kid {n k : NodeA} (h : Sh n) (hk : k ∈ n.kids) : Sh k := by cases n; rw [Sh_mk] at h; exact h.2.2.2 k hk
theorem fine_sh : ∀ n : NodeA, Fine n → n.words → Sh n := NodeA.ind fun n ih => by
 intro hf hw
 have h4 : ∀ k ∈ n.kids, Sh k := fun k hk => ih k hk (fine_kid hf hk) (NodeA.words_kid hw hk)
 obtain ⟨d, fd, fl, h⟩ := hf
 rw [okS_eq] at h
 simp only [Bool.and_eq_true] at h
 obtain ⟨_, _, hst, hs, _, hl⟩ := h
 cases n with
 | mk o m r ks =>
  rw [Sh_mk]
  refine ⟨by simpa [NodeA.kids_mk] using hs, fun ho => ?_, fun ho => ?_, h4⟩
  ·unfold stC at hst
   rw [if_pos (by rcases ho with rfl | rfl <;> rfl)] at hst
   simpa [NodeA.kids_mk] using hst
  ·subst ho
   unfold lastC at hl
   simp only [NodeA.op_mk, NodeA.kids_mk] at hl hs h4
   have hlen : ks.length = 2 := by
    have e : sortsC (.mk 9 m r ks) = [1, 1] := rfl
    rw [e] at hs
    have : (ks.map fun x => sortS x.op) = [1, 1] := by simpa using hs
    have := congrArg List.length this
    simpa using this
   match ks, hlen with
   | [a, x], _ =>
    refine ⟨x, rfl, ?_⟩
    simp only [Int.reduceBEq, Bool.false_eq_true, if_false, if_true, List.getElem?_cons_succ, List.getElem?_cons_zero, Option.all_some, Bool.and_eq_true, beq_iff_eq, Bool.or_eq_true] at hl
    refine ⟨hl.1, ?_⟩
    rcases hl.2 with h | ⟨h1, h2⟩
    ·exact .inl (List.length_eq_zero_iff.1 (by omega))
    ·have hx := (NodeA.words_num (NodeA.words_kid hw (show x ∈ (NodeA.mk 9 m r [a, x]).kids by simp [NodeA.kids_mk]))).1
     match hz : x.num.num, h1 with
     | [w], _ =>
      rw [hz] at h2 hx
      simp at h2 hx
      exact .inr ⟨w.toNat, by omega, by rw [Int.toNat_of_nonneg hx.1]⟩
/-! ### Differentials -/
abbrev nodeN (o : Int) (l : List NodeA) : NodeA := .mk o ⟨#[]⟩ (.mk false [] []) l
abbrev kidN (n : NodeA) (i : Nat) : NodeA := n.kids.getD i zN
def atS (l : List (Option NodeA)) (i : Nat) : Option NodeA := (l[i]?).join
def twoB (o : Int) (l : List (Option NodeA)) : Option NodeA := (atS l 0).bind fun a => (atS l 1).map fun b => nodeN o [a, b]
def powB (n a : NodeA) : NodeA := if expS n = 0 then numN 0 else if expS n = 1 then a else nodeN 7 [nodeN 7 [numN (expS n), nodeN 9 [kidN n 0, numN (expS n - 1)]], a]
def derB (n : NodeA) (l : List (Option NodeA)) : Option NodeA :=
 if n.op = 1 then some (numN 0)
 else if n.op = 2 then some (.mk 3 n.name (.mk false [] []) [])
 else if n.op = 4 then (atS l 0).map fun a => nodeN 4 [a]
 else if n.op = 5 ∨ n.op = 6 then twoB n.op l
 else if n.op = 7 then (atS l 0).bind fun a => (atS l 1).map fun b => nodeN 5 [nodeN 7 [a, kidN n 1], nodeN 7 [kidN n 0, b]]
 else if n.op = 8 then (atS l 0).map fun a => nodeN 8 [a, kidN n 1]
 else if n.op = 9 then (atS l 0).map fun a => powB n a
 else if n.op = 10 then (if n.kids.length = 0 then some (numN 0) else none)
 else if n.op = 11 then some (nodeN 12 [n])
 else if n.op = 20 ∨ n.op = 21 then some (nodeN 20 [])
 else if n.op = 22 ∨ n.op = 23 then twoB 22 l
 else if n.op = 24 ∨ n.op = 25 then twoB 25 l
 else if n.op = 26 ∨ n.op = 27 then twoB 27 l
 else if n.op = 29 ∨ n.op = 30 then twoB 29 l
 else if n.op = 38 then some (nodeN 39 [n])
 else none
def derS : NodeA → Option NodeA
 | .mk o m r ks => derB (.mk o m r ks) (ks.attach.map fun ⟨k, _⟩ => derS k)
termination_by n => SizeOf.sizeOf n
decreasing_by exact NodeA.size_kid (by assumption)
theorem derS_eq (n : NodeA) : derS n = derB n (n.kids.map derS) := by
 cases n with | mk o m r ks => rw [derS]; simp [NodeA.kids_mk]
def OfOk (n : NodeA) (r : NodeA × Bool) : Prop := derS n = if r.2 then some r.1 else none
theorem OfOk.t {n a : NodeA} (h : OfOk n (a, true)) : derS n = some a := h
def opsD : List Int := [1, 2, 4, 5, 6, 7, 8, 9, 10, 11, 20, 21, 22, 23, 24, 25, 26, 27, 29, 30, 38]
theorem derB_none {n : NodeA} {l : List (Option NodeA)} (h : n.op ∉ opsD) : derB n l = none := by
 unfold opsD at h
 simp only [List.mem_cons, List.not_mem_nil, or_false, not_or] at h
 unfold derB
 simp only [h, or_self, if_false]
theorem kids_two {m : ByteArray} {o : Int} {r : RatA} {ks : List NodeA} {a b : Int} (h : Sh (.mk o m r ks)) (hs : sortsC (.mk o m r ks) = [a, b]) : ∃ x y, ks = [x, y] := by
 rw [Sh_mk, hs] at h
 have := congrArg List.length h.1
 match ks, this with
 | [x, y], _ => exact ⟨x, y, rfl⟩
theorem kids_one {m : ByteArray} {o : Int} {r : RatA} {ks : List NodeA} {a : Int} (h : Sh (.mk o m r ks)) (hs : sortsC (.mk o m r ks) = [a]) : ∃ x, ks = [x] := by
 rw [Sh_mk, hs] at h
 have := congrArg List.length h.1
 match ks, this with
 | [x], _ => exact ⟨x, rfl⟩
theorem kids_nil {m : ByteArray} {o : Int} {r : RatA} {ks : List NodeA} (h : Sh (.mk o m r ks)) (hs : sortsC (.mk o m r ks) = []) : ks = [] := by
 rw [Sh_mk, hs] at h
 simpa using h.1
end Go.Proofs.YtphmckfokdkecaaGreat
namespace Go.Proofs.YtphmckfokdkecaaGreat
open Go Go.Iso Go.Proofs
set_option linter.unusedSimpArgs false
set_option linter.unusedVariables false
set_option maxRecDepth 100000
/-! ### The program's differential -/
theorem wrap_u32 {a : Int} (h1 : 0 ≤ a) (h2 : a < 4294967296) : IntKind.wrap .u32 a = a := by
 simp only [IntKind.wrap, IntKind.bits, IntKind.signed, Bool.false_and]
 simp only [Bool.false_eq_true, if_false]
 omega
theorem node_eq {K : Nat} {o : Int} {l : List NodeA} : diff_node K o l = some (nodeN o l) := rfl
theorem pairB {a b : Bool} {x : NodeA} : (if a = true then some (x, b) else some (x, false)) = some (x, a && b) := by cases a <;> rfl
theorem of_one {n a x : NodeA} {b : Bool} {f : NodeA → NodeA} (h : OfOk a (x, b)) (hd : derS n = (derS a).map f) : OfOk n (f x, b) := by
 unfold OfOk at *
 rw [hd, h]
 cases b <;> rfl
theorem of_two {n a b x y : NodeA} {c d : Bool} {f : NodeA → NodeA → NodeA} (h : OfOk a (x, c)) (h' : OfOk b (y, d)) (hd : derS n = (derS a).bind fun u => (derS b).map fun v => f u v) : OfOk n (f x y, c && d) := by
 unfold OfOk at *
 rw [hd, h, h']
 cases c <;> cases d <;> rfl
theorem exp_of {a x : NodeA} {m : ByteArray} {r : RatA} (h : x.num.num = [] ∨ ∃ w : Nat, w ≤ 20 ∧ x.num.num = [(w : Int)]) : expS (.mk 9 m r [a, x]) ≤ 20 ∧
  (((if (decide ((0 : Int) < (x.num.num.length : Int))) then (idx x.num.num (0 : Int)).bind fun x53 => some x53 else some (0 : Int)) : Option Int) = some (expS (.mk 9 m r [a, x]) : Int)) := by
 have e : expS (.mk 9 m r [a, x]) = (match x.num.num with | w :: _ => w.toNat | [] => 0) := rfl
 rw [e]
 rcases h with h | ⟨w, hw, h⟩
 ·rw [h]; exact ⟨by simp, rfl⟩
 ·rw [h]; exact ⟨by simpa using hw, rfl⟩
theorem of_iter {K : Nat} : ∀ (n : NodeA) (j : Nat), Sh n → FewN n → 3 * n.size ≤ j → n.size ≤ K → ∃ r, (grp_diff_of K j).1 n = some r ∧ OfOk n r := by
 refine NodeA.ind fun n ih => ?_
 intro j hs hf hj hK
 have hp := n.size_pos
 obtain ⟨j, rfl⟩ : ∃ i, j = i + 1 + 1 + 1 := ⟨j - 3, by omega⟩
 have hB0 : ∀ (i : Nat) x, i ≤ j + 1 → 3 * (n.size - 1) ≤ i → ∀ k : Nat, n.kids[k]? = some x → ∃ r, (grp_diff_of K (i + 1)).2.1 ((k : Int), n) = some r ∧ OfOk x r := by
  intro i x hi hi2 k hx
  obtain ⟨hlt, rfl⟩ := List.getElem?_eq_some_iff.1 hx
  have hk := List.getElem_mem hlt
  have hlt' := NodeA.size_lt hk
  obtain ⟨r, h1, h2⟩ := ih _ hk i (Sh_kid hs hk) (FewN_kid hf hk) (by omega) (by omega)
  refine ⟨r, ?_, h2⟩
  show diff_of_1_body K (grp_diff_of K i).1 (grp_diff_of K i).2.1 (grp_diff_of K i).2.2 ((k : Int), n).1 ((k : Int), n).2 = _
  unfold diff_of_1_body
  simp only [idx_nat, hx, Option.bind_some, h1]
 have hB : ∀ (k : Nat) x, n.kids[k]? = some x → ∃ r, (grp_diff_of K (j + 1 + 1)).2.1 ((k : Int), n) = some r ∧ OfOk x r := fun k x hx => hB0 (j + 1) x (Nat.le_refl _) (by omega) k hx
 have hC : ∀ (o : Int) a b, n.kids = [a, b] → ∃ x y c d, (grp_diff_of K (j + 1 + 1)).2.2 (o, n) = some (nodeN o [x, y], c && d) ∧ OfOk a (x, c) ∧ OfOk b (y, d) := by
  intro o a b hk
  obtain ⟨⟨x, c⟩, h1, h2⟩ := hB0 j a (by omega) (by omega) 0 (by rw [hk]; rfl)
  obtain ⟨⟨y, d⟩, h3, h4⟩ := hB0 j b (by omega) (by omega) 1 (by rw [hk]; rfl)
  refine ⟨x, y, c, d, ?_, h2, h4⟩
  show diff_of_2_body K (grp_diff_of K (j + 1)).1 (grp_diff_of K (j + 1)).2.1 (grp_diff_of K (j + 1)).2.2 (o, n).1 (o, n).2 = _
  unfold diff_of_2_body
  have h1 : (grp_diff_of K (j + 1)).2.1 (0, n) = some (x, c) := h1
  have h3 : (grp_diff_of K (j + 1)).2.1 (1, n) = some (y, d) := h3
  simp only [h1, h3, Option.bind_some, node_eq]
  exact pairB
 show ∃ r, diff_of_body K (grp_diff_of K (j + 1 + 1)).1 (grp_diff_of K (j + 1 + 1)).2.1 (grp_diff_of K (j + 1 + 1)).2.2 n = some r ∧ _
 generalize (grp_diff_of K (j + 1 + 1)).1 = A
 generalize (grp_diff_of K (j + 1 + 1)).2.1 = B at hB
 generalize (grp_diff_of K (j + 1 + 1)).2.2 = C at hC
 have hcp : ∀ x ∈ n.kids, tree_Copy K x = some x := fun x hx => copy_eq (FewN_kid hf hx) (by have := NodeA.size_lt hx; omega)
 have hcn : tree_Copy K n = some n := copy_eq hf hK
 clear hB0 ih
 by_cases hop : n.op ∈ opsD
 ·obtain ⟨o, m, r, ks⟩ := n
  simp only [opsD, NodeA.op_mk, List.mem_cons, List.not_mem_nil, or_false] at hop
  unfold diff_of_body
  simp only [NodeA.op_mk, NodeA.kids_mk, NodeA.name_mk] at hB hC hcp ⊢
  rcases hop with rfl | rfl | rfl | rfl | rfl | rfl | rfl | rfl | rfl | rfl | rfl | rfl | rfl | rfl | rfl | rfl | rfl | rfl | rfl | rfl | rfl
  ·exact ⟨_, rfl, by unfold OfOk; rw [derS_eq]; rfl⟩
  ·exact ⟨_, rfl, by unfold OfOk; rw [derS_eq]; rfl⟩
  ·obtain ⟨a, rfl⟩ := kids_one hs (a := 1) rfl
   obtain ⟨⟨x, c⟩, h1, h2⟩ := hB 0 a rfl
   have h1 : B (0, .mk 4 m r [a]) = some (x, c) := h1
   refine ⟨(nodeN 4 [x], c), ?_, of_one (f := fun x => nodeN 4 [x]) h2 (by rw [derS_eq]; rfl)⟩
   simp only [Int.reduceBEq, Bool.false_eq_true, if_false, if_true, h1, Option.bind_some, node_eq, outM_eq, Out.fin_out]
  ·obtain ⟨a, b, rfl⟩ := kids_two hs (a := 1) (b := 1) rfl
   obtain ⟨x, y, c, d, h1, h2, h3⟩ := hC 5 a b rfl
   refine ⟨(nodeN 5 [x, y], c && d), ?_, of_two (f := fun x y => nodeN 5 [x, y]) h2 h3 (by rw [derS_eq]; rfl)⟩
   simp only [Int.reduceBEq, Bool.false_eq_true, if_false, if_true, h1, Option.bind_some, node_eq, outM_eq, Out.fin_out]
  ·obtain ⟨a, b, rfl⟩ := kids_two hs (a := 1) (b := 1) rfl
   obtain ⟨x, y, c, d, h1, h2, h3⟩ := hC 6 a b rfl
   refine ⟨(nodeN 6 [x, y], c && d), ?_, of_two (f := fun x y => nodeN 6 [x, y]) h2 h3 (by rw [derS_eq]; rfl)⟩
   simp only [Int.reduceBEq, Bool.false_eq_true, if_false, if_true, h1, Option.bind_some, node_eq, outM_eq, Out.fin_out]
  ·obtain ⟨a, b, rfl⟩ := kids_two hs (a := 1) (b := 1) rfl
   obtain ⟨⟨x, c⟩, h1, h2⟩ := hB 0 a rfl
   obtain ⟨⟨y, d⟩, h3, h4⟩ := hB 1 b rfl
   have h1 : B (0, .mk 7 m r [a, b]) = some (x, c) := h1
   have h3 : B (1, .mk 7 m r [a, b]) = some (y, d) := h3
   have i0 : idx [a, b] 0 = some a := rfl
   have i1 : idx [a, b] 1 = some b := rfl
   refine ⟨(nodeN 5 [nodeN 7 [x, b], nodeN 7 [a, y]], c && d), ?_, of_two (f := fun x y => nodeN 5 [nodeN 7 [x, b], nodeN 7 [a, y]]) h2 h4 (by rw [derS_eq]; rfl)⟩
   simp only [Int.reduceBEq, Bool.false_eq_true, if_false, if_true, h1, h3, i0, i1, hcp a (by simp), hcp b (by simp), Option.bind_some, node_eq, outM_eq]
   cases c <;> rfl
  ·obtain ⟨a, b, rfl⟩ := kids_two hs (a := 1) (b := 1) rfl
   obtain ⟨⟨x, c⟩, h1, h2⟩ := hB 0 a rfl
   have h1 : B (0, .mk 8 m r [a, b]) = some (x, c) := h1
   have i1 : idx [a, b] 1 = some b := rfl
   refine ⟨(nodeN 8 [x, b], c), ?_, of_one (f := fun x => nodeN 8 [x, b]) h2 (by rw [derS_eq]; rfl)⟩
   simp only [Int.reduceBEq, Bool.false_eq_true, if_false, if_true, h1, i1, hcp b (by simp), Option.bind_some, node_eq, outM_eq, Out.fin_out]
  ·obtain ⟨a, b, rfl⟩ := kids_two hs (a := 1) (b := 1) rfl
   obtain ⟨⟨x, c⟩, h1, h2⟩ := hB 0 a rfl
   have h1 : B (0, .mk 9 m r [a, b]) = some (x, c) := h1
   have i0 : idx [a, b] 0 = some a := rfl
   have i1 : idx [a, b] 1 = some b := rfl
   rw [Sh_mk] at hs
   obtain ⟨b', hb', hb1, hb2⟩ := hs.2.2.1 rfl
   cases hb'
   obtain ⟨e1, e2⟩ := exp_of (a := a) (m := m) (r := r) hb2
   refine ⟨(powB (.mk 9 m r [a, b]) x, c), ?_, of_one (f := fun x => powB (.mk 9 m r [a, b]) x) h2 (by rw [derS_eq]; rfl)⟩
   simp only [Int.reduceBEq, Bool.false_eq_true, if_false, if_true, i1, Option.bind_some, e2, h1]
   unfold powB
   generalize expS (.mk 9 m r [a, b]) = k at e1
   by_cases k0 : k = 0
   ·subst k0; rfl
   by_cases k1 : k = 1
   ·subst k1; rfl
   have q0 : ((k : Int) == 0) = false := int_ne0 k0
   have q1 : ((k : Int) == 1) = false := by rw [beq_eq_false_iff_ne]; omega
   have q2 : IntKind.wrap .u32 ((k : Int) - 1) = ((k - 1 : Nat) : Int) := by rw [wrap_u32 (by omega) (by omega)]; omega
   rw [if_neg k0, if_neg k1]
   simp only [q0, q1, q2, Bool.false_eq_true, if_false, i0, Option.bind_some, hcp a (by simp), number_eq, node_eq, outM_eq, Out.fin_out]
   rfl
  ·have hl : ks.length ≤ 1 := by rw [Sh_mk] at hs; exact hs.2.1 (.inl rfl)
   refine ⟨(numN 0, ((ks.length : Int) == 0)), rfl, ?_⟩
   unfold OfOk
   rw [derS_eq]
   show (if ks.length = 0 then some (numN 0) else none) = _
   by_cases h0 : ks.length = 0
   ·rw [if_pos h0, int_eq0 h0]; rfl
   ·rw [if_neg h0, int_ne0 h0]; rfl
  ·refine ⟨(nodeN 12 [.mk 11 m r ks], true), ?_, by unfold OfOk; rw [derS_eq]; rfl⟩
   simp only [Int.reduceBEq, Bool.false_eq_true, if_false, if_true, Option.bind_some, hcn, node_eq, outM_eq, Out.fin_out]
  ·exact ⟨(nodeN 20 [], true), rfl, by unfold OfOk; rw [derS_eq]; rfl⟩
  ·exact ⟨(nodeN 20 [], true), rfl, by unfold OfOk; rw [derS_eq]; rfl⟩
  ·obtain ⟨a, b, rfl⟩ := kids_two hs (a := 1) (b := 1) rfl
   obtain ⟨x, y, c, d, h1, h2, h3⟩ := hC 22 a b rfl
   refine ⟨(nodeN 22 [x, y], c && d), ?_, of_two (f := fun x y => nodeN 22 [x, y]) h2 h3 (by rw [derS_eq]; rfl)⟩
   simp only [Int.reduceBEq, Bool.false_eq_true, if_false, if_true, h1, Option.bind_some, node_eq, outM_eq, Out.fin_out]
  ·obtain ⟨a, b, rfl⟩ := kids_two hs (a := 1) (b := 1) rfl
   obtain ⟨x, y, c, d, h1, h2, h3⟩ := hC 22 a b rfl
   refine ⟨(nodeN 22 [x, y], c && d), ?_, of_two (f := fun x y => nodeN 22 [x, y]) h2 h3 (by rw [derS_eq]; rfl)⟩
   simp only [Int.reduceBEq, Bool.false_eq_true, if_false, if_true, h1, Option.bind_some, node_eq, outM_eq, Out.fin_out]
  ·obtain ⟨a, b, rfl⟩ := kids_two hs (a := 1) (b := 1) rfl
   obtain ⟨x, y, c, d, h1, h2, h3⟩ := hC 25 a b rfl
   refine ⟨(nodeN 25 [x, y], c && d), ?_, of_two (f := fun x y => nodeN 25 [x, y]) h2 h3 (by rw [derS_eq]; rfl)⟩
   simp only [Int.reduceBEq, Bool.false_eq_true, if_false, if_true, h1, Option.bind_some, node_eq, outM_eq, Out.fin_out]
  ·obtain ⟨a, b, rfl⟩ := kids_two hs (a := 1) (b := 1) rfl
   obtain ⟨x, y, c, d, h1, h2, h3⟩ := hC 25 a b rfl
   refine ⟨(nodeN 25 [x, y], c && d), ?_, of_two (f := fun x y => nodeN 25 [x, y]) h2 h3 (by rw [derS_eq]; rfl)⟩
   simp only [Int.reduceBEq, Bool.false_eq_true, if_false, if_true, h1, Option.bind_some, node_eq, outM_eq, Out.fin_out]
  ·obtain ⟨a, b, rfl⟩ := kids_two hs (a := 1) (b := 1) rfl
   obtain ⟨x, y, c, d, h1, h2, h3⟩ := hC 27 a b rfl
   refine ⟨(nodeN 27 [x, y], c && d), ?_, of_two (f := fun x y => nodeN 27 [x, y]) h2 h3 (by rw [derS_eq]; rfl)⟩
   simp only [Int.reduceBEq, Bool.false_eq_true, if_false, if_true, h1, Option.bind_some, node_eq, outM_eq, Out.fin_out]
  ·obtain ⟨a, b, rfl⟩ := kids_two hs (a := 1) (b := 1) rfl
   obtain ⟨x, y, c, d, h1, h2, h3⟩ := hC 27 a b rfl
   refine ⟨(nodeN 27 [x, y], c && d), ?_, of_two (f := fun x y => nodeN 27 [x, y]) h2 h3 (by rw [derS_eq]; rfl)⟩
   simp only [Int.reduceBEq, Bool.false_eq_true, if_false, if_true, h1, Option.bind_some, node_eq, outM_eq, Out.fin_out]
  ·obtain ⟨a, b, rfl⟩ := kids_two hs (a := 2) (b := 2) rfl
   obtain ⟨x, y, c, d, h1, h2, h3⟩ := hC 29 a b rfl
   refine ⟨(nodeN 29 [x, y], c && d), ?_, of_two (f := fun x y => nodeN 29 [x, y]) h2 h3 (by rw [derS_eq]; rfl)⟩
   simp only [Int.reduceBEq, Bool.false_eq_true, if_false, if_true, h1, Option.bind_some, node_eq, outM_eq, Out.fin_out]
  ·obtain ⟨a, b, rfl⟩ := kids_two hs (a := 2) (b := 2) rfl
   obtain ⟨x, y, c, d, h1, h2, h3⟩ := hC 29 a b rfl
   refine ⟨(nodeN 29 [x, y], c && d), ?_, of_two (f := fun x y => nodeN 29 [x, y]) h2 h3 (by rw [derS_eq]; rfl)⟩
   simp only [Int.reduceBEq, Bool.false_eq_true, if_false, if_true, h1, Option.bind_some, node_eq, outM_eq, Out.fin_out]
  ·refine ⟨(nodeN 39 [.mk 38 m r ks], true), ?_, by unfold OfOk; rw [derS_eq]; rfl⟩
   simp only [Int.reduceBEq, Bool.false_eq_true, if_false, if_true, Option.bind_some, hcn, node_eq, outM_eq, Out.fin_out]
 ·refine ⟨(zN, false), ?_, by unfold OfOk; rw [derS_eq, derB_none hop]; rfl⟩
  unfold opsD at hop
  simp only [List.mem_cons, List.not_mem_nil, or_false, not_or] at hop
  have hb : ∀ c : Int, n.op ≠ c → (n.op == c) = false := fun c h => beq_eq_false_iff_ne.2 h
  obtain ⟨h1, h2, h4, h5, h6, h7, h8, h9, h10, h11, h20, h21, h22, h23, h24, h25, h26, h27, h29, h30, h38⟩ := hop
  unfold diff_of_body
  simp only [hb _ h1, hb _ h2, hb _ h4, hb _ h5, hb _ h6, hb _ h7, hb _ h8, hb _ h9, hb _ h10, hb _ h11, hb _ h20, hb _ h21, hb _ h22, hb _ h23, hb _ h24, hb _ h25, hb _ h26, hb _ h27, hb _ h29, hb _ h30, hb _ h38, Bool.false_eq_true, if_false, Option.bind_some, Out.fin_go]
theorem of_eq {K : Nat} {n : NodeA} (hs : Sh n) (hf : FewN n) (hK : 3 * n.size ≤ K) : ∃ r, diff_of K n = some r ∧ OfOk n r := of_iter n K hs hf hK (by omega)
end Go.Proofs.YtphmckfokdkecaaGreat
namespace Go.Proofs.YtphmckfokdkecaaGreat
open Go Go.Iso Go.Proofs
set_option linter.unusedSimpArgs false
set_option linter.unusedVariables false
set_option maxRecDepth 100000
/-! ### The reference's differential -/
def ksD (n : NodeA) : List NodeA := if n.op = 8 ∨ n.op = 9 then n.kids.take 1 else n.kids
def LoopR (n : NodeA) (o : Out (List NodeA) (NodeA × Bool)) : Prop :=
 (o = .out (zN, false) ∧ ((n.op = 10 ∨ n.op = 12) ∧ n.kids ≠ [] ∨ ∃ k ∈ ksD n, derS k = none)) ∨
 ∃ L, o = .go L ∧ L.map some = (ksD n).map derS ∧ ((n.op = 10 ∨ n.op = 12) → n.kids = [])
theorem loop_one {n a : NodeA} {o : Out (List NodeA) (NodeA × Bool)} (h : LoopR n o) (hk : ksD n = [a]) (h1 : ¬ (n.op = 10 ∨ n.op = 12)) : (o = .out (zN, false) ∧ derS a = none) ∨ ∃ x, o = .go [x] ∧ derS a = some x := by
 rcases h with ⟨h, h2⟩ | ⟨L, h, h2, _⟩
 ·rcases h2 with h2 | ⟨k, hk2, h2⟩
  ·exact absurd h2.1 h1
  ·rw [hk, List.mem_singleton] at hk2; subst hk2; exact .inl ⟨h, h2⟩
 ·rw [hk] at h2
  have hl : L.length = 1 := by simpa using congrArg List.length h2
  match L, hl, h2 with
  | [x], _, h2 => exact .inr ⟨x, h, by simpa using h2.symm⟩
theorem loop_two {n a b : NodeA} {o : Out (List NodeA) (NodeA × Bool)} (h : LoopR n o) (hk : ksD n = [a, b]) (h1 : ¬ (n.op = 10 ∨ n.op = 12)) : (o = .out (zN, false) ∧ (derS a = none ∨ derS b = none)) ∨ ∃ x y, o = .go [x, y] ∧ derS a = some x ∧ derS b = some y := by
 rcases h with ⟨h, h2⟩ | ⟨L, h, h2, _⟩
 ·rcases h2 with h2 | ⟨k, hk2, h2⟩
  ·exact absurd h2.1 h1
  ·rw [hk] at hk2
   rcases List.mem_cons.1 hk2 with rfl | hk2
   ·exact .inl ⟨h, .inl h2⟩
   ·rw [List.mem_singleton] at hk2; subst hk2; exact .inl ⟨h, .inr h2⟩
 ·rw [hk] at h2
  have hl : L.length = 2 := by simpa using congrArg List.length h2
  match L, hl, h2 with
  | [x, y], _, h2 => simp at h2; exact .inr ⟨x, y, h, h2.1.symm, h2.2.symm⟩
theorem loop_nil {n : NodeA} {o : Out (List NodeA) (NodeA × Bool)} (h : LoopR n o) (hk : n.kids = []) : o = .go [] := by
 have e : ksD n = [] := by unfold ksD; rw [hk]; simp
 rcases h with ⟨h, h2⟩ | ⟨L, h, h2, _⟩
 ·rcases h2 with h2 | ⟨k, hk2, h2⟩
  ·exact absurd hk h2.2
  ·rw [e] at hk2; cases hk2
 ·rw [e] at h2
  match L, h2 with
  | [], h2 => exact h
theorem OfOk.none {n : NodeA} (h : derS n = none) : OfOk n (zN, false) := h
theorem OfOk.some {n x : NodeA} (h : derS n = some x) : OfOk n (x, true) := h
theorem ex_loop {α : Type} {e : Option α} {P W : α → Prop} (h : ∃ o, e = some o ∧ P o) (k : ∀ o, P o → W o) : ∃ o, e = some o ∧ W o := let ⟨o, h1, h2⟩ := h; ⟨o, h1, k o h2⟩
theorem derive_iter {K : Nat} (hK0 : 100 ≤ K) : ∀ (n : NodeA) (j : Nat), Sh n → FewN n → n.size ≤ j → n.size ≤ K → ∃ r, iter j (fun self q => r13_Derive_body K self q) n = some r ∧ OfOk n r := by
 refine NodeA.ind fun n ih => ?_
 intro j hs hf hj hK
 have hp := n.size_pos
 have hkl := n.kids_lt
 have hb := FewN_len hf
 obtain ⟨j, rfl⟩ : ∃ i, j = i + 1 := ⟨j - 1, by omega⟩
 rw [iter_succ]
 have ih' : ∀ k ∈ n.kids, ∃ r, iter j (fun self q => r13_Derive_body K self q) k = some r ∧ OfOk k r := fun k hk => ih k hk j (Sh_kid hs hk) (FewN_kid hf hk) (by have := NodeA.size_lt hk; omega) (by have := NodeA.size_lt hk; omega)
 generalize iter j (fun self q => r13_Derive_body K self q) = S at ih' ⊢
 unfold r13_Derive_body
 refine ex_ob (ex_loop (P := LoopR n) ?_ ?_)
 ·-- the loop
  refine loopE (fun i s => ∃ L : List NodeA, s = ((i : Int), L) ∧ L.map some = (n.kids.take i).map derS ∧ (n.op = 8 ∨ n.op = 9 → i ≤ 1) ∧ (n.op = 10 ∨ n.op = 12 → i = 0)) (fun _ _ o => LoopR n o) n.kids.length ?_ ?_ 0 _ ⟨[], rfl, by simp, fun _ => by omega, fun _ => rfl⟩ (by omega) (by omega)
  ·rintro g i s hi ⟨L, rfl, hL, h8, h10⟩ hg
   have hx : n.kids[i]? = some n.kids[i] := List.getElem?_eq_getElem hi
   simp only [lt_tn hi, if_true, idx_nat, hx, Option.bind_some, andO, orO, outM_eq]
   have hLl : L.length = i := by
    have := congrArg List.length hL
    simpa [Nat.min_eq_left (Nat.le_of_lt hi)] using this
   by_cases hcut : i = 1 ∧ (n.op = 8 ∨ n.op = 9)
   ·have e : ((i : Int) == 1 && (n.op == 8 || n.op == 9)) = true := by
     obtain ⟨rfl, h | h⟩ := hcut <;> rw [h] <;> rfl
    have e' : (if ((i : Int) == 1) = true then if (n.op == 8) = true then some true else some (n.op == 9) else some false : Option Bool) = some true := by
     obtain ⟨rfl, h | h⟩ := hcut <;> rw [h] <;> rfl
    refine ⟨.go L, ?_, .inr ⟨L, rfl, ?_, fun h => ?_⟩⟩
    ·simp only [e, e', Option.bind_some, if_true, Out.fin_out]
    ·unfold ksD; rw [if_pos hcut.2, hL, hcut.1]
    ·rcases hcut.2 with h' | h' <;> rcases h with h | h <;> omega
   ·have e : ((i : Int) == 1 && (n.op == 8 || n.op == 9)) = false := by
     rw [Bool.eq_false_iff]
     intro h
     simp only [Bool.and_eq_true, Bool.or_eq_true, beq_iff_eq] at h
     exact hcut ⟨by omega, h.2⟩
    by_cases hf10 : n.op = 10 ∨ n.op = 12
    ·have e2 : (n.op == 12 || n.op == 10) = true := by rcases hf10 with h | h <;> rw [h] <;> rfl
     refine ⟨.out (zN, false), ?_, .inl ⟨rfl, .inl ⟨hf10, fun h => by rw [h] at hi; cases hi⟩⟩⟩
     simp only [e, e2, Option.bind_some, Bool.false_eq_true, if_false, if_true, Out.fin_go, Out.fin_out]
    ·have e2 : (n.op == 12 || n.op == 10) = false := by
      rw [Bool.eq_false_iff]
      intro h
      simp only [Bool.or_eq_true, beq_iff_eq] at h
      exact hf10 h.symm
     obtain ⟨⟨x, b⟩, h1, h2⟩ := ih' _ (List.getElem_mem hi)
     cases b with
     | false =>
      have h2 : derS n.kids[i] = none := h2
      refine ⟨.out (zN, false), ?_, .inl ⟨rfl, .inr ⟨n.kids[i], ?_, h2⟩⟩⟩
      ·simp only [e, e2, h1, Option.bind_some, Bool.false_eq_true, if_false, Bool.not_false, if_true, Out.fin_go, Out.fin_out]
      ·unfold ksD
       split
       ·next h =>
        have : i = 0 := by have := h8 h; have : i ≠ 1 := fun h' => hcut ⟨h', h⟩; omega
        subst this
        exact List.mem_of_getElem? (i := 0) (by rw [List.getElem?_take, if_pos (by omega)]; exact hx)
       ·exact List.getElem_mem hi
     | true =>
      have h2 : derS n.kids[i] = some x := h2
      have hL2 : (L ++ [x]).map some = (n.kids.take (i + 1)).map derS := by
       rw [List.take_add_one, hx]
       simp only [List.map_append, hL, Option.toList_some, List.map_cons, List.map_nil, h2]
      have happ : appO 104 L [x] = some (L ++ [x]) := app_node (by omega)
      obtain ⟨o, ho, hP⟩ := hg (((i + 1 : Nat) : Int), L ++ [x]) ⟨L ++ [x], rfl, hL2, fun h => by have := h8 h; have : i ≠ 1 := fun h' => hcut ⟨h', h⟩; omega, fun h => absurd h hf10⟩
      refine ⟨o, ?_, hP⟩
      simp only [e, e2, h1, happ, Option.bind_some, Bool.false_eq_true, if_false, Bool.not_true, Out.fin_go]
      rw [w64s (by unfold big at hb; omega)]
      exact ho
  ·rintro g s ⟨L, rfl, hL, h8, h10⟩
   simp only [lt_fn (Nat.le_refl n.kids.length), Bool.false_eq_true, if_false]
   rw [List.take_length] at hL
   refine ⟨_, rfl, .inr ⟨L, rfl, ?_, fun h => List.length_eq_zero_iff.1 (h10 h)⟩⟩
   unfold ksD
   split
   ·next h => rw [List.take_of_length_le (h8 h)]; exact hL
   ·exact hL
 ·intro o ho
  by_cases hop : n.op ∈ opsD
  ·obtain ⟨op, m, r, ks⟩ := n
   simp only [opsD, NodeA.op_mk, List.mem_cons, List.not_mem_nil, or_false] at hop
   simp only [NodeA.op_mk, NodeA.kids_mk, NodeA.name_mk] at ih' ⊢
   rcases hop with rfl | rfl | rfl | rfl | rfl | rfl | rfl | rfl | rfl | rfl | rfl | rfl | rfl | rfl | rfl | rfl | rfl | rfl | rfl | rfl | rfl
   ·obtain rfl := kids_nil hs rfl
    obtain rfl := loop_nil ho rfl
    refine ⟨(numN 0, true), ?_, by unfold OfOk; rw [derS_eq]; rfl⟩
    simp only [Out.fin_go, Int.reduceBEq, if_true, Option.bind_some, show r08_Num K (0 : Int) = some (numN 0) from num_eq (k := 0) hK0 (by omega), outM_eq, Out.fin_out]
   ·obtain rfl := kids_nil hs rfl
    obtain rfl := loop_nil ho rfl
    exact ⟨_, rfl, by unfold OfOk; rw [derS_eq]; rfl⟩
   ·obtain ⟨a, rfl⟩ := kids_one hs (a := 1) rfl
    rcases loop_one ho (a := a) rfl (by simp [NodeA.op_mk]) with ⟨rfl, h⟩ | ⟨x, rfl, h⟩
    ·exact ⟨_, rfl, .none (by rw [derS_eq]; show ((derS a).map fun x => nodeN 4 [x]) = none; rw [h]; rfl)⟩
    ·exact ⟨_, rfl, .some (by rw [derS_eq]; show ((derS a).map fun x => nodeN 4 [x]) = some _; rw [h]; rfl)⟩
   ·obtain ⟨a, b, rfl⟩ := kids_two hs (a := 1) (b := 1) rfl
    rcases loop_two ho (a := a) (b := b) rfl (by simp [NodeA.op_mk]) with ⟨rfl, h⟩ | ⟨x, y, rfl, h, h'⟩
    ·exact ⟨_, rfl, .none (by rw [derS_eq]; show ((derS a).bind fun x => (derS b).map fun y => nodeN 5 [x, y]) = none; rcases h with h | h <;> rw [h] <;> cases derS a <;> rfl)⟩
    ·exact ⟨_, rfl, .some (by rw [derS_eq]; show ((derS a).bind fun x => (derS b).map fun y => nodeN 5 [x, y]) = some _; rw [h, h']; rfl)⟩
   ·obtain ⟨a, b, rfl⟩ := kids_two hs (a := 1) (b := 1) rfl
    rcases loop_two ho (a := a) (b := b) rfl (by simp [NodeA.op_mk]) with ⟨rfl, h⟩ | ⟨x, y, rfl, h, h'⟩
    ·exact ⟨_, rfl, .none (by rw [derS_eq]; show ((derS a).bind fun x => (derS b).map fun y => nodeN 6 [x, y]) = none; rcases h with h | h <;> rw [h] <;> cases derS a <;> rfl)⟩
    ·exact ⟨_, rfl, .some (by rw [derS_eq]; show ((derS a).bind fun x => (derS b).map fun y => nodeN 6 [x, y]) = some _; rw [h, h']; rfl)⟩
   ·obtain ⟨a, b, rfl⟩ := kids_two hs (a := 1) (b := 1) rfl
    rcases loop_two ho (a := a) (b := b) rfl (by simp [NodeA.op_mk]) with ⟨rfl, h⟩ | ⟨x, y, rfl, h, h'⟩
    ·exact ⟨_, rfl, .none (by rw [derS_eq]; show ((derS a).bind fun x => (derS b).map fun y => nodeN 5 [nodeN 7 [x, b], nodeN 7 [a, y]]) = none; rcases h with h | h <;> rw [h] <;> cases derS a <;> rfl)⟩
    ·exact ⟨_, rfl, .some (by rw [derS_eq]; show ((derS a).bind fun x => (derS b).map fun y => nodeN 5 [nodeN 7 [x, b], nodeN 7 [a, y]]) = some _; rw [h, h']; rfl)⟩
   ·obtain ⟨a, b, rfl⟩ := kids_two hs (a := 1) (b := 1) rfl
    rcases loop_one ho (a := a) rfl (by simp [NodeA.op_mk]) with ⟨rfl, h⟩ | ⟨x, rfl, h⟩
    ·exact ⟨_, rfl, .none (by rw [derS_eq]; show ((derS a).map fun x => nodeN 8 [x, b]) = none; rw [h]; rfl)⟩
    ·exact ⟨_, rfl, .some (by rw [derS_eq]; show ((derS a).map fun x => nodeN 8 [x, b]) = some _; rw [h]; rfl)⟩
   ·obtain ⟨a, b, rfl⟩ := kids_two hs (a := 1) (b := 1) rfl
    rw [Sh_mk] at hs
    obtain ⟨b', hb', hb1, hb2⟩ := hs.2.2.1 rfl
    cases hb'
    obtain ⟨e1, e2⟩ := exp_of (a := a) (m := m) (r := r) hb2
    rcases loop_one ho (a := a) rfl (by simp [NodeA.op_mk]) with ⟨rfl, h⟩ | ⟨x, rfl, h⟩
    ·exact ⟨_, rfl, .none (by rw [derS_eq]; show ((derS a).map fun x => powB (.mk 9 m r [a, b]) x) = none; rw [h]; rfl)⟩
    ·refine ⟨(powB (.mk 9 m r [a, b]) x, true), ?_, .some (by rw [derS_eq]; show ((derS a).map fun x => powB (.mk 9 m r [a, b]) x) = some _; rw [h]; rfl)⟩
     have hexp : r08_Exponent K (.mk 9 m r [a, b]) = some (expS (.mk 9 m r [a, b]) : Int) := by
      unfold r08_Exponent
      have i1 : idx (NodeA.mk 9 m r [a, b]).kids 1 = some b := rfl
      have e : expS (.mk 9 m r [a, b]) = (match b.num.num with | w :: _ => w.toNat | [] => 0) := rfl
      rw [i1, e]
      rcases hb2 with h | ⟨w, hw, h⟩
      ·simp only [Option.bind_some, h]; rfl
      ·have i0 : idx [(w : Int)] 0 = some (w : Int) := rfl
       simp only [Option.bind_some, h, List.length_cons, List.length_nil, Int.toNat_natCast, i0]
       rw [w64 (by omega) (by omega)]; rfl
     simp only [Out.fin_go, Int.reduceBEq, Bool.false_eq_true, if_false, if_true, Option.bind_some, hexp]
     unfold powB
     generalize expS (.mk 9 m r [a, b]) = k at e1
     have i0 : idx [a, b] 0 = some a := rfl
     have i0' : idx [x] 0 = some x := rfl
     by_cases k0 : k = 0
     ·subst k0
      have q0 : (((0 : Nat) : Int) == 0) = true := rfl
      simp only [q0, if_true, show r08_Num K (0 : Int) = some (numN 0) from num_eq (k := 0) hK0 (by omega), Option.bind_some, outM_eq, Out.fin_out]
     by_cases k1 : k = 1
     ·subst k1; rfl
     have q0 : ((k : Int) == 0) = false := int_ne0 k0
     have q1 : ((k : Int) == 1) = false := by rw [beq_eq_false_iff_ne]; omega
     have q2 : IntKind.wrap .i64 ((k : Int) - 1) = ((k - 1 : Nat) : Int) := by rw [w64 (by omega) (by omega)]; omega
     rw [if_neg k0, if_neg k1]
     simp only [q0, q1, q2, Bool.false_eq_true, if_false, i0, i0', Option.bind_some, num_eq hK0 e1, num_eq hK0 (show k - 1 ≤ 20 by omega)]
     rfl
   ·have hl : ks.length ≤ 1 := by rw [Sh_mk] at hs; exact hs.2.1 (.inl rfl)
    match ks, hl with
    | [], _ =>
     obtain rfl := loop_nil ho rfl
     refine ⟨(numN 0, true), ?_, by unfold OfOk; rw [derS_eq]; rfl⟩
     simp only [Out.fin_go, Int.reduceBEq, Bool.false_eq_true, if_false, if_true, Option.bind_some, show r08_Num K (0 : Int) = some (numN 0) from num_eq (k := 0) hK0 (by omega), outM_eq, Out.fin_out]
    | [a], _ =>
     rcases ho with ⟨rfl, _⟩ | ⟨L, _, _, h⟩
     ·exact ⟨_, rfl, by unfold OfOk; rw [derS_eq]; rfl⟩
     ·exact absurd (h (.inl rfl)) (by simp [NodeA.kids_mk])
   ·obtain rfl := kids_nil hs rfl
    obtain rfl := loop_nil ho rfl
    exact ⟨_, rfl, by unfold OfOk; rw [derS_eq]; rfl⟩
   ·obtain rfl := kids_nil hs rfl
    obtain rfl := loop_nil ho rfl
    exact ⟨_, rfl, by unfold OfOk; rw [derS_eq]; rfl⟩
   ·obtain rfl := kids_nil hs rfl
    obtain rfl := loop_nil ho rfl
    exact ⟨_, rfl, by unfold OfOk; rw [derS_eq]; rfl⟩
   ·obtain ⟨a, b, rfl⟩ := kids_two hs (a := 1) (b := 1) rfl
    rcases loop_two ho (a := a) (b := b) rfl (by simp [NodeA.op_mk]) with ⟨rfl, h⟩ | ⟨x, y, rfl, h, h'⟩
    ·exact ⟨_, rfl, .none (by rw [derS_eq]; show ((derS a).bind fun x => (derS b).map fun y => nodeN 22 [x, y]) = none; rcases h with h | h <;> rw [h] <;> cases derS a <;> rfl)⟩
    ·exact ⟨_, rfl, .some (by rw [derS_eq]; show ((derS a).bind fun x => (derS b).map fun y => nodeN 22 [x, y]) = some _; rw [h, h']; rfl)⟩
   ·obtain ⟨a, b, rfl⟩ := kids_two hs (a := 1) (b := 1) rfl
    rcases loop_two ho (a := a) (b := b) rfl (by simp [NodeA.op_mk]) with ⟨rfl, h⟩ | ⟨x, y, rfl, h, h'⟩
    ·exact ⟨_, rfl, .none (by rw [derS_eq]; show ((derS a).bind fun x => (derS b).map fun y => nodeN 22 [x, y]) = none; rcases h with h | h <;> rw [h] <;> cases derS a <;> rfl)⟩
    ·exact ⟨_, rfl, .some (by rw [derS_eq]; show ((derS a).bind fun x => (derS b).map fun y => nodeN 22 [x, y]) = some _; rw [h, h']; rfl)⟩
   ·obtain ⟨a, b, rfl⟩ := kids_two hs (a := 1) (b := 1) rfl
    rcases loop_two ho (a := a) (b := b) rfl (by simp [NodeA.op_mk]) with ⟨rfl, h⟩ | ⟨x, y, rfl, h, h'⟩
    ·exact ⟨_, rfl, .none (by rw [derS_eq]; show ((derS a).bind fun x => (derS b).map fun y => nodeN 25 [x, y]) = none; rcases h with h | h <;> rw [h] <;> cases derS a <;> rfl)⟩
    ·exact ⟨_, rfl, .some (by rw [derS_eq]; show ((derS a).bind fun x => (derS b).map fun y => nodeN 25 [x, y]) = some _; rw [h, h']; rfl)⟩
   ·obtain ⟨a, b, rfl⟩ := kids_two hs (a := 1) (b := 1) rfl
    rcases loop_two ho (a := a) (b := b) rfl (by simp [NodeA.op_mk]) with ⟨rfl, h⟩ | ⟨x, y, rfl, h, h'⟩
    ·exact ⟨_, rfl, .none (by rw [derS_eq]; show ((derS a).bind fun x => (derS b).map fun y => nodeN 25 [x, y]) = none; rcases h with h | h <;> rw [h] <;> cases derS a <;> rfl)⟩
    ·exact ⟨_, rfl, .some (by rw [derS_eq]; show ((derS a).bind fun x => (derS b).map fun y => nodeN 25 [x, y]) = some _; rw [h, h']; rfl)⟩
   ·obtain ⟨a, b, rfl⟩ := kids_two hs (a := 1) (b := 1) rfl
    rcases loop_two ho (a := a) (b := b) rfl (by simp [NodeA.op_mk]) with ⟨rfl, h⟩ | ⟨x, y, rfl, h, h'⟩
    ·exact ⟨_, rfl, .none (by rw [derS_eq]; show ((derS a).bind fun x => (derS b).map fun y => nodeN 27 [x, y]) = none; rcases h with h | h <;> rw [h] <;> cases derS a <;> rfl)⟩
    ·exact ⟨_, rfl, .some (by rw [derS_eq]; show ((derS a).bind fun x => (derS b).map fun y => nodeN 27 [x, y]) = some _; rw [h, h']; rfl)⟩
   ·obtain ⟨a, b, rfl⟩ := kids_two hs (a := 1) (b := 1) rfl
    rcases loop_two ho (a := a) (b := b) rfl (by simp [NodeA.op_mk]) with ⟨rfl, h⟩ | ⟨x, y, rfl, h, h'⟩
    ·exact ⟨_, rfl, .none (by rw [derS_eq]; show ((derS a).bind fun x => (derS b).map fun y => nodeN 27 [x, y]) = none; rcases h with h | h <;> rw [h] <;> cases derS a <;> rfl)⟩
    ·exact ⟨_, rfl, .some (by rw [derS_eq]; show ((derS a).bind fun x => (derS b).map fun y => nodeN 27 [x, y]) = some _; rw [h, h']; rfl)⟩
   ·obtain ⟨a, b, rfl⟩ := kids_two hs (a := 2) (b := 2) rfl
    rcases loop_two ho (a := a) (b := b) rfl (by simp [NodeA.op_mk]) with ⟨rfl, h⟩ | ⟨x, y, rfl, h, h'⟩
    ·exact ⟨_, rfl, .none (by rw [derS_eq]; show ((derS a).bind fun x => (derS b).map fun y => nodeN 29 [x, y]) = none; rcases h with h | h <;> rw [h] <;> cases derS a <;> rfl)⟩
    ·exact ⟨_, rfl, .some (by rw [derS_eq]; show ((derS a).bind fun x => (derS b).map fun y => nodeN 29 [x, y]) = some _; rw [h, h']; rfl)⟩
   ·obtain ⟨a, b, rfl⟩ := kids_two hs (a := 2) (b := 2) rfl
    rcases loop_two ho (a := a) (b := b) rfl (by simp [NodeA.op_mk]) with ⟨rfl, h⟩ | ⟨x, y, rfl, h, h'⟩
    ·exact ⟨_, rfl, .none (by rw [derS_eq]; show ((derS a).bind fun x => (derS b).map fun y => nodeN 29 [x, y]) = none; rcases h with h | h <;> rw [h] <;> cases derS a <;> rfl)⟩
    ·exact ⟨_, rfl, .some (by rw [derS_eq]; show ((derS a).bind fun x => (derS b).map fun y => nodeN 29 [x, y]) = some _; rw [h, h']; rfl)⟩
   ·obtain rfl := kids_nil hs rfl
    obtain rfl := loop_nil ho rfl
    exact ⟨_, rfl, by unfold OfOk; rw [derS_eq]; rfl⟩
  ·have hnone : OfOk n (zN, false) := by unfold OfOk; rw [derS_eq, derB_none hop]; rfl
   refine ⟨(zN, false), ?_, hnone⟩
   rcases ho with ⟨rfl, _⟩ | ⟨L, rfl, _⟩
   ·rfl
   unfold opsD at hop
   simp only [List.mem_cons, List.not_mem_nil, or_false, not_or] at hop
   have hb : ∀ c : Int, n.op ≠ c → (n.op == c) = false := fun c h => beq_eq_false_iff_ne.2 h
   obtain ⟨h1, h2, h4, h5, h6, h7, h8, h9, h10, h11, h20, h21, h22, h23, h24, h25, h26, h27, h29, h30, h38⟩ := hop
   simp only [hb _ h1, hb _ h2, hb _ h4, hb _ h5, hb _ h6, hb _ h7, hb _ h8, hb _ h9, hb _ h10, hb _ h11, hb _ h20, hb _ h21, hb _ h22, hb _ h23, hb _ h24, hb _ h25, hb _ h26, hb _ h27, hb _ h29, hb _ h30, hb _ h38, Bool.false_eq_true, if_false, Option.bind_some, Out.fin_go]
theorem derive_eq {K : Nat} {n : NodeA} (hK0 : 100 ≤ K) (hs : Sh n) (hf : FewN n) (hK : n.size ≤ K) : ∃ r, r13_Derive K n = some r ∧ OfOk n r := derive_iter hK0 n K hs hf hK hK
end Go.Proofs.YtphmckfokdkecaaGreat
namespace Go.Proofs.YtphmckfokdkecaaGreat
open Go Go.Iso Go.Proofs
set_option linter.unusedSimpArgs false
set_option linter.unusedVariables false
set_option maxRecDepth 100000
/-! ### What a differential is like -/
structure Gd (s : Int) (d : NodeA) : Prop where
 few : FewN d
 words : d.words
 sh : Sh d
 sort : sortS d.op = s
theorem zR_ok : Few (.mk false [] []) ∧ (RatA.mk false [] []).words := ⟨⟨by simp, by simp⟩, ⟨by simp, by simp⟩⟩
theorem gd_leaf {o : Int} {m : ByteArray} {r : RatA} (h1 : Few r) (h2 : r.words) (h3 : sortsC (.mk o m r []) = []) (h9 : o ≠ 9) : Gd (sortS o) (.mk o m r []) :=
 ⟨by rw [FewN_mk]; exact ⟨h1, by simp, by simp⟩, by rw [NodeA.words_mk]; exact ⟨h2, by simp⟩, by rw [Sh_mk]; exact ⟨by rw [h3]; rfl, by simp, fun h => absurd h h9, by simp⟩, rfl⟩
theorem gd_num {k : Nat} (h : k ≤ 20) : Gd 1 (numN k) := by
 refine gd_leaf (o := 1) ⟨?_, by simp⟩ ⟨?_, by simp⟩ rfl (by decide)
 ·show (if k = 0 then [] else [(k : Int)] : List Int).length ≤ 100
  split <;> simp
 ·show ∀ x ∈ (if k = 0 then [] else [(k : Int)] : List Int), _
  split
  ·simp
  ·intro x hx; rw [List.mem_singleton] at hx; omega
theorem gd_one {o s : Int} {a : NodeA} (ha : Gd s a) (hs : sortsC (nodeN o [a]) = [s]) (h9 : o ≠ 9) : Gd (sortS o) (nodeN o [a]) :=
 ⟨by rw [FewN_mk]; exact ⟨zR_ok.1, by simp [big], by simpa using ha.few⟩, by rw [NodeA.words_mk]; exact ⟨zR_ok.2, by simpa using ha.words⟩,
  by rw [Sh_mk]; exact ⟨by rw [hs, List.map_cons, ha.sort]; rfl, by simp, fun h => absurd h h9, by simpa using ha.sh⟩, rfl⟩
theorem gd_two {o s t : Int} {a b : NodeA} (ha : Gd s a) (hb : Gd t b) (hs : sortsC (nodeN o [a, b]) = [s, t]) (h9 : o ≠ 9) (h10 : o ≠ 10) (h37 : o ≠ 37) : Gd (sortS o) (nodeN o [a, b]) :=
 ⟨by rw [FewN_mk]; exact ⟨zR_ok.1, by simp [big], by simpa using ⟨ha.few, hb.few⟩⟩, by rw [NodeA.words_mk]; exact ⟨zR_ok.2, by simpa using ⟨ha.words, hb.words⟩⟩,
  by rw [Sh_mk]; exact ⟨by rw [hs, List.map_cons, List.map_cons, ha.sort, hb.sort]; rfl, fun h => by omega, fun h => absurd h h9, by simpa using ⟨ha.sh, hb.sh⟩⟩, rfl⟩
theorem gd_pow {k : Nat} {a : NodeA} (ha : Gd 1 a) (h : k ≤ 20) : Gd 1 (nodeN 9 [a, numN k]) := by
 have hn := gd_num h
 refine ⟨by rw [FewN_mk]; exact ⟨zR_ok.1, by simp [big], by simpa using ⟨ha.few, hn.few⟩⟩, by rw [NodeA.words_mk]; exact ⟨zR_ok.2, by simpa using ⟨ha.words, hn.words⟩⟩, ?_, rfl⟩
 rw [Sh_mk]
 refine ⟨?_, by simp, fun _ => ⟨numN k, rfl, rfl, ?_⟩, by simpa using ⟨ha.sh, hn.sh⟩⟩
 ·have e : sortsC (nodeN 9 [a, numN k]) = [1, 1] := rfl
  rw [e, List.map_cons, List.map_cons, ha.sort, hn.sort]; rfl
 ·show (if k = 0 then [] else [(k : Int)] : List Int) = [] ∨ ∃ w : Nat, w ≤ 20 ∧ (if k = 0 then [] else [(k : Int)] : List Int) = [(w : Int)]
  split
  ·exact .inl rfl
  ·exact .inr ⟨k, h, rfl⟩
theorem gd_kid {n k : NodeA} {s : Int} (h : Gd s n) (hk : k ∈ n.kids) : Gd (sortS k.op) k := ⟨FewN_kid h.few hk, NodeA.words_kid h.words hk, Sh_kid h.sh hk, rfl⟩
theorem gd_two_of {m : ByteArray} {r : RatA} {o s t u : Int} {a b : NodeA} (h : Gd u (.mk o m r [a, b])) (hs : sortsC (.mk o m r [a, b]) = [s, t]) : Gd s a ∧ Gd t b := by
 have ha := gd_kid h (show a ∈ (NodeA.mk o m r [a, b]).kids by simp [NodeA.kids_mk])
 have hb := gd_kid h (show b ∈ (NodeA.mk o m r [a, b]).kids by simp [NodeA.kids_mk])
 have := h.sh
 rw [Sh_mk, hs] at this
 simp at this
 exact ⟨this.1.1 ▸ ha, this.1.2 ▸ hb⟩
theorem gd_one_of {m : ByteArray} {r : RatA} {o s u : Int} {a : NodeA} (h : Gd u (.mk o m r [a])) (hs : sortsC (.mk o m r [a]) = [s]) : Gd s a := by
 have ha := gd_kid h (show a ∈ (NodeA.mk o m r [a]).kids by simp [NodeA.kids_mk])
 have := h.sh
 rw [Sh_mk, hs] at this
 simp at this
 exact this.1 ▸ ha
theorem map_some {α β : Type} {o : Option α} {f : α → β} {y : β} (h : o.map f = some y) : ∃ x, o = some x ∧ f x = y := by
 cases o with
 | none => cases h
 | some x => exact ⟨x, rfl, Option.some.inj h⟩
theorem two_some {α : Type} {p q : Option α} {f : α → α → α} {y : α} (h : (p.bind fun a => q.map fun b => f a b) = some y) : ∃ a b, p = some a ∧ q = some b ∧ f a b = y := by
 cases p with
 | none => cases h
 | some a => obtain ⟨b, h1, h2⟩ := map_some h; exact ⟨a, b, rfl, h1, h2⟩
theorem szA {o : Int} {m : ByteArray} {r : RatA} {a : NodeA} : (NodeA.mk o m r [a]).size = 1 + a.size := by rw [NodeA.size_mk]; simp
theorem szB {o : Int} {m : ByteArray} {r : RatA} {a b : NodeA} : (NodeA.mk o m r [a, b]).size = 1 + (a.size + b.size) := by rw [NodeA.size_mk]; simp
theorem szO {o : Int} {m : ByteArray} {r : RatA} : (NodeA.mk o m r []).size = 1 := by rw [NodeA.size_mk]; simp
theorem sq1 {a : Nat} : 4 * ((1 + a) * (1 + a)) = 4 * (a * a) + 8 * a + 4 := by simp only [Nat.mul_add, Nat.add_mul]; omega
theorem sq2 {a b : Nat} : 4 * ((1 + (a + b)) * (1 + (a + b))) = 4 * (a * a) + 4 * (b * b) + 8 * (a * b) + 8 * a + 8 * b + 4 := by
 have : b * a = a * b := Nat.mul_comm b a
 simp only [Nat.mul_add, Nat.add_mul]; omega
theorem der_good : ∀ (n d : NodeA), Gd (sortS n.op) n → derS n = some d → Gd (sortS n.op) d ∧ d.size ≤ 4 * (n.size * n.size) := by
 refine NodeA.ind fun n ih => ?_
 intro d hg hd
 have hs := hg.sh
 rw [derS_eq] at hd
 by_cases hop : n.op ∈ opsD
 ·obtain ⟨o, m, r, ks⟩ := n
  simp only [opsD, NodeA.op_mk, List.mem_cons, List.not_mem_nil, or_false] at hop
  simp only [NodeA.op_mk, NodeA.kids_mk] at ih hd hg ⊢
  have hpos := (NodeA.mk o m r ks).size_pos
  have hsq : (NodeA.mk o m r ks).size ≤ (NodeA.mk o m r ks).size * (NodeA.mk o m r ks).size := Nat.le_mul_of_pos_left _ hpos
  have two : ∀ (s : Int) (o2 : Int) (f : NodeA → NodeA → NodeA), sortS o = sortS o2 → o2 ≠ 9 → o2 ≠ 10 → o2 ≠ 37 → (∀ a b, sortsC (.mk o m r [a, b]) = [s, s]) → (∀ a b, sortsC (nodeN o2 [a, b]) = [s, s]) → ∀ a b, ks = [a, b] →
    ((derS a).bind fun u => (derS b).map fun v => nodeN o2 [u, v]) = some d → Gd (sortS o) d ∧ d.size ≤ 4 * ((NodeA.mk o m r ks).size * (NodeA.mk o m r ks).size) := by
   rintro s o2 f he h9 h10 h37 hs1 hs2 a b rfl h
   obtain ⟨x, y, h1, h2, rfl⟩ := two_some h
   obtain ⟨ga, gb⟩ := gd_two_of hg (hs1 a b)
   obtain ⟨gx, sx⟩ := ih a (by simp) x (ga.sort ▸ ga) h1
   obtain ⟨gy, sy⟩ := ih b (by simp) y (gb.sort ▸ gb) h2
   rw [ga.sort] at gx
   rw [gb.sort] at gy
   refine ⟨he ▸ gd_two gx gy (hs2 x y) h9 h10 h37, ?_⟩
   rw [szB, szB, sq2]; omega
  rcases hop with rfl | rfl | rfl | rfl | rfl | rfl | rfl | rfl | rfl | rfl | rfl | rfl | rfl | rfl | rfl | rfl | rfl | rfl | rfl | rfl | rfl
  ·cases hd; exact ⟨gd_num (by omega), by rw [show (numN 0).size = 1 from szO]; omega⟩
  ·cases hd; exact ⟨gd_leaf (o := 3) zR_ok.1 zR_ok.2 rfl (by decide), by rw [szO]; omega⟩
  ·obtain ⟨a, rfl⟩ := kids_one hs (a := 1) rfl
   obtain ⟨x, h1, rfl⟩ := map_some (o := derS a) (f := fun x => nodeN 4 [x]) hd
   have ga := gd_one_of hg (s := 1) rfl
   obtain ⟨gx, sx⟩ := ih a (by simp) x (ga.sort ▸ ga) h1
   rw [ga.sort] at gx
   exact ⟨gd_one (o := 4) gx rfl (by decide), by rw [szA, szA, sq1]; omega⟩
  ·obtain ⟨a, b, rfl⟩ := kids_two hs (a := 1) (b := 1) rfl
   exact two 1 5 (fun x y => x) rfl (by decide) (by decide) (by decide) (fun _ _ => rfl) (fun _ _ => rfl) a b rfl hd
  ·obtain ⟨a, b, rfl⟩ := kids_two hs (a := 1) (b := 1) rfl
   exact two 1 6 (fun x y => x) rfl (by decide) (by decide) (by decide) (fun _ _ => rfl) (fun _ _ => rfl) a b rfl hd
  ·obtain ⟨a, b, rfl⟩ := kids_two hs (a := 1) (b := 1) rfl
   obtain ⟨x, y, h1, h2, rfl⟩ := two_some (p := derS a) (q := derS b) (f := fun x y => nodeN 5 [nodeN 7 [x, b], nodeN 7 [a, y]]) hd
   obtain ⟨ga, gb⟩ := gd_two_of hg (s := 1) (t := 1) rfl
   obtain ⟨gx, sx⟩ := ih a (by simp) x (ga.sort ▸ ga) h1
   obtain ⟨gy, sy⟩ := ih b (by simp) y (gb.sort ▸ gb) h2
   rw [ga.sort] at gx
   rw [gb.sort] at gy
   refine ⟨gd_two (o := 5) (gd_two (o := 7) (s := 1) (t := 1) gx gb rfl (by decide) (by decide) (by decide)) (gd_two (o := 7) (s := 1) (t := 1) ga gy rfl (by decide) (by decide) (by decide)) rfl (by decide) (by decide) (by decide), ?_⟩
   rw [szB, szB, szB, szB, sq2]; omega
  ·obtain ⟨a, b, rfl⟩ := kids_two hs (a := 1) (b := 1) rfl
   obtain ⟨x, h1, rfl⟩ := map_some (o := derS a) (f := fun x => nodeN 8 [x, b]) hd
   obtain ⟨ga, gb⟩ := gd_two_of hg (s := 1) (t := 1) rfl
   obtain ⟨gx, sx⟩ := ih a (by simp) x (ga.sort ▸ ga) h1
   rw [ga.sort] at gx
   refine ⟨gd_two (o := 8) gx gb rfl (by decide) (by decide) (by decide), ?_⟩
   rw [szB, szB, sq2]; omega
  ·obtain ⟨a, b, rfl⟩ := kids_two hs (a := 1) (b := 1) rfl
   have hs' := hs
   rw [Sh_mk] at hs'
   obtain ⟨b', hb', hb1, hb2⟩ := hs'.2.2.1 rfl
   cases hb'
   obtain ⟨e1, e2⟩ := exp_of (a := a) (m := m) (r := r) hb2
   obtain ⟨x, h1, rfl⟩ := map_some (o := derS a) (f := fun x => powB (.mk 9 m r [a, b]) x) hd
   obtain ⟨ga, gb⟩ := gd_two_of hg (s := 1) (t := 1) rfl
   obtain ⟨gx, sx⟩ := ih a (by simp) x (ga.sort ▸ ga) h1
   rw [ga.sort] at gx
   have hbp := b.size_pos
   have hn1 : ∀ k, (numN k).size = 1 := fun k => szO
   unfold powB
   split
   ·exact ⟨gd_num (by omega), by rw [hn1]; omega⟩
   split
   ·refine ⟨gx, ?_⟩
    rw [szB, sq2]; omega
   ·refine ⟨gd_two (o := 7) (gd_two (o := 7) (s := 1) (t := 1) (gd_num e1) (gd_pow ga (by omega)) rfl (by decide) (by decide) (by decide)) gx rfl (by decide) (by decide) (by decide), ?_⟩
    show (nodeN 7 [nodeN 7 [numN _, nodeN 9 [a, numN _]], x]).size ≤ _
    rw [szB, szB, szB, hn1, hn1, szB, sq2]; omega
  ·have hd : (if ks.length = 0 then some (numN 0) else none) = some d := hd
   split at hd
   ·cases hd; exact ⟨gd_num (by omega), by rw [show (numN 0).size = 1 from szO]; omega⟩
   ·cases hd
  ·cases hd; exact ⟨gd_one (o := 12) (s := 1) hg rfl (by decide), by rw [szA]; omega⟩
  ·cases hd; exact ⟨gd_leaf (o := 20) zR_ok.1 zR_ok.2 rfl (by decide), by rw [szO]; omega⟩
  ·cases hd; exact ⟨gd_leaf (o := 20) zR_ok.1 zR_ok.2 rfl (by decide), by rw [szO]; omega⟩
  ·obtain ⟨a, b, rfl⟩ := kids_two hs (a := 1) (b := 1) rfl
   exact two 1 22 (fun x y => x) rfl (by decide) (by decide) (by decide) (fun _ _ => rfl) (fun _ _ => rfl) a b rfl hd
  ·obtain ⟨a, b, rfl⟩ := kids_two hs (a := 1) (b := 1) rfl
   exact two 1 22 (fun x y => x) rfl (by decide) (by decide) (by decide) (fun _ _ => rfl) (fun _ _ => rfl) a b rfl hd
  ·obtain ⟨a, b, rfl⟩ := kids_two hs (a := 1) (b := 1) rfl
   exact two 1 25 (fun x y => x) rfl (by decide) (by decide) (by decide) (fun _ _ => rfl) (fun _ _ => rfl) a b rfl hd
  ·obtain ⟨a, b, rfl⟩ := kids_two hs (a := 1) (b := 1) rfl
   exact two 1 25 (fun x y => x) rfl (by decide) (by decide) (by decide) (fun _ _ => rfl) (fun _ _ => rfl) a b rfl hd
  ·obtain ⟨a, b, rfl⟩ := kids_two hs (a := 1) (b := 1) rfl
   exact two 1 27 (fun x y => x) rfl (by decide) (by decide) (by decide) (fun _ _ => rfl) (fun _ _ => rfl) a b rfl hd
  ·obtain ⟨a, b, rfl⟩ := kids_two hs (a := 1) (b := 1) rfl
   exact two 1 27 (fun x y => x) rfl (by decide) (by decide) (by decide) (fun _ _ => rfl) (fun _ _ => rfl) a b rfl hd
  ·obtain ⟨a, b, rfl⟩ := kids_two hs (a := 2) (b := 2) rfl
   exact two 2 29 (fun x y => x) rfl (by decide) (by decide) (by decide) (fun _ _ => rfl) (fun _ _ => rfl) a b rfl hd
  ·obtain ⟨a, b, rfl⟩ := kids_two hs (a := 2) (b := 2) rfl
   exact two 2 29 (fun x y => x) rfl (by decide) (by decide) (by decide) (fun _ _ => rfl) (fun _ _ => rfl) a b rfl hd
  ·cases hd; exact ⟨gd_one (o := 39) (s := 2) hg rfl (by decide), by rw [szA]; omega⟩
 ·rw [derB_none hop] at hd; cases hd
theorem fine_gd {n : NodeA} (h : Fine n) (hw : n.words) (hb : n.size ≤ big) : Gd (sortS n.op) n := ⟨fine_fewN n h hb, hw, fine_sh n h hw, rfl⟩
end Go.Proofs.YtphmckfokdkecaaGreat
namespace Go.Proofs.YtphmckfokdkecaaGreat
open Go Go.Iso Go.Proofs
set_option linter.unusedSimpArgs false
set_option linter.unusedVariables false
set_option maxRecDepth 100000
/-! ### Of -/
theorem sort5_all : ((List.range 63).all fun k => decide (0 ≤ sortS (k : Int)) && decide (sortS (k : Int) ≤ 4)) = true := by decide +kernel
theorem sort5 (op : Int) : 0 ≤ sortS op ∧ sortS op ≤ 4 := by
 by_cases h : sortS op = 0
 ·omega
 ·obtain ⟨k, hk, rfl⟩ := sort_range h
  have := List.all_eq_true.1 sort5_all k (by simpa using hk)
  simpa using this
theorem check_ok {n : NodeA} {s : Int} (h : checkS n s = 0) : okS n false false false = true ∧ sortS n.op = s := by
 unfold checkS at h
 split at h
 ·cases h
 ·split at h
  ·split at h
   ·cases h
   ·next h1 =>
    split at h
    ·cases h
    ·next h2 => exact ⟨by simpa using h2, by simpa using h1⟩
  ·cases h
theorem small_eq {K : Nat} {n : NodeA} {m : Int} (hK : n.size ≤ K) (hb : n.size ≤ big) : law13_small K n m = some (decide ((n.lev : Int) ≤ 20) && decide ((n.size : Int) ≤ m)) := by
 unfold law13_small
 refine ob _ (r08_Levels_eq hK hb) ?_
 cases decide ((n.lev : Int) ≤ 20) with
 | false => rfl
 | true => exact ob _ (r08_Size_eq hK hb) rfl
def rootA (n : NodeA) : Int × Int := if sortS n.op = 0 ∨ sortS n.op = 4 then (0, 80) else (sortS n.op, checkS n (sortS n.op))
theorem root_eq {K : Nat} {n : NodeA} (hK : 12 < K) (hK2 : 2 * n.size ≤ K) (hb : n.size ≤ big) : diff_root K n = some (rootA n) := by
 unfold diff_root rootA
 refine ob _ tree_Sort_eq ?_
 simp only [orO, Option.bind_some, outM_eq]
 by_cases h : sortS n.op = 0 ∨ sortS n.op = 4
 ·have e : (sortS n.op == 0 || sortS n.op == 4) = true := by simpa using h
  simp only [e, if_pos h, if_true, Option.bind_some, Out.fin_out]
 ·have e : (sortS n.op == 0 || sortS n.op == 4) = false := by
   rw [Bool.eq_false_iff]; intro h'; exact h (by simpa using h')
  simp only [e, if_neg h, Bool.false_eq_true, if_false, Option.bind_some, Out.fin_go]
  exact ob _ (tree_Check_eq hK hK2 hb) rfl
def endA (d : NodeA) (s : Int) : NodeA × Int := if checkS d s ≠ 0 then (zN, checkS d s) else (d, 0)
def ofA (n : NodeA) : NodeA × Int :=
 if sortS n.op = 1 ∨ sortS n.op = 2 then
  (if checkS n (sortS n.op) ≠ 0 then (zN, checkS n (sortS n.op)) else match derS n with | some d => endA d (sortS n.op) | none => (zN, 130))
 else (zN, 80)
section
variable {n : NodeA}
theorem endA_bad {d : NodeA} {s : Int} (h : checkS d s ≠ 0) : endA d s = (zN, checkS d s) := by unfold endA; rw [if_pos h]
theorem endA_ok {d : NodeA} {s : Int} (h : checkS d s = 0) : endA d s = (d, 0) := by unfold endA; rw [if_neg (by simpa using h)]
end
theorem bne_t {a b : Int} (h : a ≠ b) : (a != b) = true := by simpa using h
theorem bne_f {a b : Int} (h : a = b) : (a != b) = false := by simpa using h
theorem beq_f {a b : Int} (h : a ≠ b) : (a == b) = false := by simpa using h
section
variable {K : Nat} {n : NodeA} (hK : 100000 ≤ K) (hb : n.size ≤ big) (hw : n.words) (hs : n.size ≤ 60)
include hK hb hw hs
end
theorem zN_few : FewN zN := by unfold zN; rw [FewN_mk]; exact ⟨zR_ok.1, by simp, by simp⟩
theorem zN_equal {K : Nat} (hK : 100000 ≤ K) : r08_Equal K zN zN = some true := equal_refl (by omega) zN_few (by rw [show zN.size = 1 from szO]; omega) (by rw [show zN.size = 1 from szO]; unfold big; omega)
end Go.Proofs.YtphmckfokdkecaaGreat
namespace Go.Proofs.YtphmckfokdkecaaGreat
open Go Go.Iso Go.Proofs
set_option linter.unusedSimpArgs false
set_option linter.unusedVariables false
set_option maxRecDepth 100000
/-! ### Differentials put in -/
def pushN (n : NodeA) : NodeA :=
 if n.op = 12 ∨ n.op = 39 then (match derS (kidN n 0) with | some d => if occB 12 d || occB 39 d then n else d | none => n) else n
def pushS : NodeA → NodeA
 | .mk o m r ks => pushN (.mk o m r (ks.attach.map fun ⟨k, _⟩ => pushS k))
termination_by n => SizeOf.sizeOf n
decreasing_by exact NodeA.size_kid (by assumption)
theorem pushS_eq (o : Int) (m : ByteArray) (r : RatA) (ks : List NodeA) : pushS (.mk o m r ks) = pushN (.mk o m r (ks.map pushS)) := by
 rw [pushS]; simp
theorem pushN_cases (n : NodeA) : pushN n = n ∨ ((n.op = 12 ∨ n.op = 39) ∧ derS (kidN n 0) = some (pushN n)) := by
 unfold pushN
 split
 ·next h =>
  split
  ·next d hd =>
   split
   ·exact .inl rfl
   ·exact .inr ⟨h, hd⟩
  ·exact .inl rfl
 ·exact .inl rfl
theorem pushN_other {n : NodeA} (h : ¬ (n.op = 12 ∨ n.op = 39)) : pushN n = n := by unfold pushN; rw [if_neg h]
theorem gd_mapped {o : Int} {m : ByteArray} {r : RatA} {ks : List NodeA} (hg : Gd (sortS o) (.mk o m r ks)) (h : ∀ k ∈ ks, Gd (sortS k.op) (pushS k) ∧ (k.op = 1 → (pushS k).op = 1 ∧ (pushS k).num = k.num)) : Gd (sortS o) (.mk o m r (ks.map pushS)) := by
 have hf := hg.few
 have hw := hg.words
 have hs := hg.sh
 rw [FewN_mk] at hf
 rw [NodeA.words_mk] at hw
 rw [Sh_mk] at hs
 refine ⟨?_, ?_, ?_, rfl⟩
 ·rw [FewN_mk]
  refine ⟨hf.1, by simpa using hf.2.1, fun k hk => ?_⟩
  obtain ⟨x, hx, rfl⟩ := List.mem_map.1 hk
  exact (h x hx).1.few
 ·rw [NodeA.words_mk]
  refine ⟨hw.1, fun k hk => ?_⟩
  obtain ⟨x, hx, rfl⟩ := List.mem_map.1 hk
  exact (h x hx).1.words
 ·rw [Sh_mk]
  refine ⟨?_, fun ho => by rw [List.length_map]; exact hs.2.1 ho, fun ho => ?_, fun k hk => ?_⟩
  ·have e : sortsC (.mk o m r (ks.map pushS)) = sortsC (.mk o m r ks) := by
    unfold sortsC; simp only [NodeA.op_mk, NodeA.kids_mk, List.length_map]
   rw [e, ← hs.1, List.map_map]
   exact List.map_congr_left fun k hk => (h k hk).1.sort
  ·obtain ⟨x, h1, h2, h3⟩ := hs.2.2.1 ho
   have hx : x ∈ ks := List.mem_of_getElem? h1
   obtain ⟨e1, e2⟩ := (h x hx).2 h2
   exact ⟨pushS x, by rw [List.getElem?_map, h1]; rfl, e1, by rw [e2]; exact h3⟩
  ·obtain ⟨x, hx, rfl⟩ := List.mem_map.1 hk
   exact (h x hx).1.sh
theorem diff_kid {n : NodeA} (hg : Gd (sortS n.op) n) (h : n.op = 12 ∨ n.op = 39) : ∃ a, n.kids = [a] ∧ kidN n 0 = a ∧ Gd (sortS n.op) a ∧ (sortS n.op = 1 ∨ sortS n.op = 2) := by
 obtain ⟨o, m, r, ks⟩ := n
 simp only [NodeA.op_mk, NodeA.kids_mk] at *
 rcases h with rfl | rfl
 ·obtain ⟨a, rfl⟩ := kids_one hg.sh (a := 1) rfl
  exact ⟨a, rfl, rfl, gd_one_of hg rfl, .inl rfl⟩
 ·obtain ⟨a, rfl⟩ := kids_one hg.sh (a := 2) rfl
  exact ⟨a, rfl, rfl, gd_one_of hg rfl, .inr rfl⟩
theorem pushN_good {n : NodeA} (hg : Gd (sortS n.op) n) : Gd (sortS n.op) (pushN n) := by
 rcases pushN_cases n with h | ⟨h, hd⟩
 ·rw [h]; exact hg
 ·obtain ⟨a, h1, h2, ga, _⟩ := diff_kid hg h
  rw [h2] at hd
  have := (der_good a _ (ga.sort ▸ ga) hd).1
  rw [ga.sort] at this
  exact this
theorem push_good : ∀ n : NodeA, Gd (sortS n.op) n → Gd (sortS n.op) (pushS n) ∧ (n.op = 1 → (pushS n).op = 1 ∧ (pushS n).num = n.num) := NodeA.ind fun n ih => by
 intro hg
 obtain ⟨o, m, r, ks⟩ := n
 simp only [NodeA.op_mk, NodeA.kids_mk] at ih hg ⊢
 rw [pushS_eq]
 have h1 := gd_mapped hg fun k hk => ih k hk (gd_kid hg (show k ∈ (NodeA.mk o m r ks).kids from hk))
 refine ⟨pushN_good (n := .mk o m r (ks.map pushS)) h1, fun ho => ?_⟩
 rw [pushN_other (by simp only [NodeA.op_mk]; omega)]
 exact ⟨ho, rfl⟩
/-! ### Levels -/
theorem lv0 {o : Int} {m : ByteArray} {r : RatA} : (NodeA.mk o m r []).lev = 1 := by rw [NodeA.lev_mk]; rfl
theorem lv1 {o : Int} {m : ByteArray} {r : RatA} {a : NodeA} : (NodeA.mk o m r [a]).lev = 1 + a.lev := by rw [NodeA.lev_mk]; simp
theorem lv2 {o : Int} {m : ByteArray} {r : RatA} {a b : NodeA} : (NodeA.mk o m r [a, b]).lev = 1 + max a.lev b.lev := by rw [NodeA.lev_mk]; simp
theorem lev_pos (n : NodeA) : 0 < n.lev := by rw [lev_eq]; omega
theorem der_lev : ∀ (n d : NodeA), Gd (sortS n.op) n → derS n = some d → d.lev ≤ 3 * n.lev := by
 refine NodeA.ind fun n ih => ?_
 intro d hg hd
 have hs := hg.sh
 rw [derS_eq] at hd
 have hp := lev_pos n
 by_cases hop : n.op ∈ opsD
 ·obtain ⟨o, m, r, ks⟩ := n
  simp only [opsD, NodeA.op_mk, List.mem_cons, List.not_mem_nil, or_false] at hop
  simp only [NodeA.op_mk, NodeA.kids_mk] at ih hd hg ⊢
  have ih' : ∀ a ∈ ks, ∀ x, derS a = some x → x.lev ≤ 3 * a.lev := fun a ha x hx => ih a ha x (gd_kid hg (show a ∈ (NodeA.mk o m r ks).kids from ha)) hx
  have two : ∀ (o2 : Int) a b, ks = [a, b] → ((derS a).bind fun u => (derS b).map fun v => nodeN o2 [u, v]) = some d → d.lev ≤ 3 * (NodeA.mk o m r ks).lev := by
   rintro o2 a b rfl h
   obtain ⟨x, y, h1, h2, rfl⟩ := two_some h
   have := ih' a (by simp) x h1
   have := ih' b (by simp) y h2
   rw [lv2, lv2]; omega
  rcases hop with rfl | rfl | rfl | rfl | rfl | rfl | rfl | rfl | rfl | rfl | rfl | rfl | rfl | rfl | rfl | rfl | rfl | rfl | rfl | rfl | rfl
  ·cases hd; rw [show (numN 0).lev = 1 from lv0]; omega
  ·cases hd; rw [lv0]; omega
  ·obtain ⟨a, rfl⟩ := kids_one hs (a := 1) rfl
   obtain ⟨x, h1, rfl⟩ := map_some (o := derS a) (f := fun x => nodeN 4 [x]) hd
   have := ih' a (by simp) x h1
   rw [lv1, lv1]; omega
  ·obtain ⟨a, b, rfl⟩ := kids_two hs (a := 1) (b := 1) rfl; exact two 5 a b rfl hd
  ·obtain ⟨a, b, rfl⟩ := kids_two hs (a := 1) (b := 1) rfl; exact two 6 a b rfl hd
  ·obtain ⟨a, b, rfl⟩ := kids_two hs (a := 1) (b := 1) rfl
   obtain ⟨x, y, h1, h2, rfl⟩ := two_some (p := derS a) (q := derS b) (f := fun x y => nodeN 5 [nodeN 7 [x, b], nodeN 7 [a, y]]) hd
   have := ih' a (by simp) x h1
   have := ih' b (by simp) y h2
   rw [lv2, lv2, lv2, lv2]; omega
  ·obtain ⟨a, b, rfl⟩ := kids_two hs (a := 1) (b := 1) rfl
   obtain ⟨x, h1, rfl⟩ := map_some (o := derS a) (f := fun x => nodeN 8 [x, b]) hd
   have := ih' a (by simp) x h1
   rw [lv2, lv2]; omega
  ·obtain ⟨a, b, rfl⟩ := kids_two hs (a := 1) (b := 1) rfl
   obtain ⟨x, h1, rfl⟩ := map_some (o := derS a) (f := fun x => powB (.mk 9 m r [a, b]) x) hd
   have := ih' a (by simp) x h1
   have hn1 : ∀ k, (numN k).lev = 1 := fun k => lv0
   have ha := lev_pos a
   unfold powB
   split
   ·rw [hn1]; omega
   split
   ·rw [lv2]; omega
   ·show (nodeN 7 [nodeN 7 [numN _, nodeN 9 [a, numN _]], x]).lev ≤ _
    rw [lv2, lv2, lv2, hn1, hn1, lv2]; omega
  ·have hd : (if ks.length = 0 then some (numN 0) else none) = some d := hd
   split at hd
   ·cases hd; rw [show (numN 0).lev = 1 from lv0]; omega
   ·cases hd
  ·cases hd; rw [lv1]; omega
  ·cases hd; rw [lv0]; omega
  ·cases hd; rw [lv0]; omega
  ·obtain ⟨a, b, rfl⟩ := kids_two hs (a := 1) (b := 1) rfl; exact two 22 a b rfl hd
  ·obtain ⟨a, b, rfl⟩ := kids_two hs (a := 1) (b := 1) rfl; exact two 22 a b rfl hd
  ·obtain ⟨a, b, rfl⟩ := kids_two hs (a := 1) (b := 1) rfl; exact two 25 a b rfl hd
  ·obtain ⟨a, b, rfl⟩ := kids_two hs (a := 1) (b := 1) rfl; exact two 25 a b rfl hd
  ·obtain ⟨a, b, rfl⟩ := kids_two hs (a := 1) (b := 1) rfl; exact two 27 a b rfl hd
  ·obtain ⟨a, b, rfl⟩ := kids_two hs (a := 1) (b := 1) rfl; exact two 27 a b rfl hd
  ·obtain ⟨a, b, rfl⟩ := kids_two hs (a := 2) (b := 2) rfl; exact two 29 a b rfl hd
  ·obtain ⟨a, b, rfl⟩ := kids_two hs (a := 2) (b := 2) rfl; exact two 29 a b rfl hd
  ·cases hd; rw [lv1]; omega
 ·rw [derB_none hop] at hd; cases hd
theorem max_le {l : List Nat} {v : Nat} (h : ∀ x ∈ l, x ≤ v) : l.foldl max 0 ≤ v := foldl_max_le.2 h
theorem le_max {l : List Nat} {x : Nat} (h : x ∈ l) : x ≤ l.foldl max 0 := foldl_max_le.1 (Nat.le_refl _) x h
theorem lev_kid {n k : NodeA} (h : k ∈ n.kids) : k.lev < n.lev := by
 rw [lev_eq n]
 have := le_max (List.mem_map_of_mem (f := NodeA.lev) h)
 omega
theorem pow3 {a b : Nat} (h : a ≤ b) : 3 ^ a ≤ 3 ^ b := Nat.pow_le_pow_right (by omega) h
theorem push_lev : ∀ n : NodeA, Gd (sortS n.op) n → (pushS n).lev ≤ 3 ^ n.lev := NodeA.ind fun n ih => by
 intro hg
 obtain ⟨o, m, r, ks⟩ := n
 simp only [NodeA.op_mk, NodeA.kids_mk] at ih hg
 rw [pushS_eq]
 have hgm := gd_mapped hg fun k hk => push_good k (gd_kid hg (show k ∈ (NodeA.mk o m r ks).kids from hk))
 have hk : ∀ k ∈ ks, (pushS k).lev ≤ 3 ^ ((NodeA.mk o m r ks).lev - 1) := fun k hk => by
  have h1 := ih k hk (gd_kid hg (show k ∈ (NodeA.mk o m r ks).kids from hk))
  have h2 := lev_kid (show k ∈ (NodeA.mk o m r ks).kids from hk)
  exact Nat.le_trans h1 (pow3 (by omega))
 have hp := lev_pos (NodeA.mk o m r ks)
 have h3 : 3 ^ (NodeA.mk o m r ks).lev = 3 * 3 ^ ((NodeA.mk o m r ks).lev - 1) := by
  rw [← Nat.pow_succ']; congr 1; omega
 have h1 : 1 ≤ 3 ^ ((NodeA.mk o m r ks).lev - 1) := Nat.one_le_pow _ _ (by omega)
 rcases pushN_cases (.mk o m r (ks.map pushS)) with h | ⟨h, hd⟩
 ·rw [h, lev_eq]
  simp only [NodeA.kids_mk]
  have : (((ks.map pushS).map NodeA.lev).foldl max 0) ≤ 3 ^ ((NodeA.mk o m r ks).lev - 1) := max_le fun x hx => by
   obtain ⟨y, hy, rfl⟩ := List.mem_map.1 hx
   obtain ⟨k, hk', rfl⟩ := List.mem_map.1 hy
   exact hk k hk'
  omega
 ·obtain ⟨a, e1, e2, ga, _⟩ := diff_kid (n := .mk o m r (ks.map pushS)) hgm h
  rw [e2] at hd
  have hl := der_lev a _ (ga.sort ▸ ga) hd
  simp only [NodeA.kids_mk] at e1
  have ha : a ∈ ks.map pushS := by rw [e1]; simp
  obtain ⟨k, hk', rfl⟩ := List.mem_map.1 ha
  have := hk k hk'
  omega
end Go.Proofs.YtphmckfokdkecaaGreat
namespace Go.Proofs.YtphmckfokdkecaaGreat
open Go Go.Iso Go.Proofs
set_option linter.unusedSimpArgs false
set_option linter.unusedVariables false
set_option maxRecDepth 100000
/-! ### What both compute -/
def roomN (n : NodeA) : Nat := n.size + (match derS (kidN n 0) with | some d => d.size | none => 0)
def roomS : NodeA → Nat
 | .mk o m r ks => roomN (.mk o m r (ks.map pushS)) + (ks.attach.map fun ⟨k, _⟩ => roomS k).sum
termination_by n => SizeOf.sizeOf n
decreasing_by exact NodeA.size_kid (by assumption)
theorem roomS_eq (o : Int) (m : ByteArray) (r : RatA) (ks : List NodeA) : roomS (.mk o m r ks) = roomN (.mk o m r (ks.map pushS)) + (ks.map roomS).sum := by
 rw [roomS]; simp
theorem room_kid {o : Int} {m : ByteArray} {r : RatA} {ks : List NodeA} {k : NodeA} (h : k ∈ ks) : roomS k ≤ roomS (.mk o m r ks) := by
 rw [roomS_eq]
 have := sum_mem (List.mem_map_of_mem (f := roomS) h)
 omega
theorem push_room : ∀ n : NodeA, (pushS n).size ≤ roomS n := by
 intro n
 obtain ⟨o, m, r, ks⟩ := n
 rw [pushS_eq, roomS_eq]
 rcases pushN_cases (.mk o m r (ks.map pushS)) with h | ⟨h, hd⟩
 ·rw [h]; unfold roomN; omega
 ·unfold roomN; rw [hd]; simp only; omega
section
variable {K : Nat} (hK0 : 1000 ≤ K)
include hK0
theorem Push1_eq {n : NodeA} (hg : Gd (sortS n.op) n) (hK : 4 * roomN n ≤ K) : diff_Push_1 K n = some (pushN n) := by
 unfold diff_Push_1
 by_cases h : n.op = 12 ∨ n.op = 39
 ·have e : (if (n.op != (12 : Int)) then some (n.op != (39 : Int)) else some false : Option Bool) = some false := by rcases h with h | h <;> rw [h] <;> rfl
  refine ob _ (ob _ e rfl) ?_
  obtain ⟨a, h1, h2, ga, _⟩ := diff_kid hg h
  have i0 : idx n.kids 0 = some a := by rw [h1]; rfl
  have ha : a.size < n.size := NodeA.size_lt (by rw [h1]; simp)
  unfold roomN at hK
  obtain ⟨⟨d, b⟩, h3, h4⟩ := of_eq (K := K) ga.sh ga.few (by omega)
  simp only [Out.fin_go, i0, h3, Option.bind_some]
  unfold pushN
  rw [if_pos h, h2]
  rw [h2] at hK
  cases b with
  | false =>
   have h4 : derS a = none := h4
   rw [h4]; rfl
  | true =>
   have h4 : derS a = some d := h4
   rw [h4] at hK ⊢
   simp only at hK
   have gd := (der_good a d (ga.sort ▸ ga) h4).1
   have hu : static_Uses K d [12, 39] = some (occB 12 d || occB 39 d) := by
    rw [uses_eq (by simp; omega) (by simp [big]) gd.few (by omega)]
    simp
   simp only [Bool.not_true, Bool.false_eq_true, if_false, hu, Option.bind_some, outM_eq]
   cases (occB 12 d || occB 39 d) <;> rfl
 ·have e : (if (n.op != (12 : Int)) then some (n.op != (39 : Int)) else some false : Option Bool) = some true := by
   rw [bne_t (fun h' => h (.inl h')), bne_t (fun h' => h (.inr h'))]; rfl
  refine ob _ (ob _ e rfl) ?_
  rw [pushN_other h]; rfl
theorem pmapped_iter : ∀ (n : NodeA) (j : Nat), Gd (sortS n.op) n → n.size ≤ j → n.size ≤ K → 4 * roomS n ≤ K → iter j (fun self q => diff_mapped_diff_Push_1_body K self q) n = some (pushS n) := by
 refine NodeA.ind fun n ih => ?_
 intro j hg hj hKn hR
 have hp := n.size_pos
 have hkl := n.kids_lt
 have hb := FewN_len hg.few
 obtain ⟨j, rfl⟩ : ∃ i, j = i + 1 := ⟨j - 1, by omega⟩
 rw [iter_succ]
 obtain ⟨o, m, r, ks⟩ := n
 simp only [NodeA.op_mk, NodeA.name_mk, NodeA.num_mk, NodeA.kids_mk] at hg hkl hb ih
 have ih' : ∀ k ∈ ks, iter j (fun self q => diff_mapped_diff_Push_1_body K self q) k = some (pushS k) := fun k hk => by
  have hlt := NodeA.size_lt (show k ∈ (NodeA.mk o m r ks).kids from hk)
  have := room_kid (o := o) (m := m) (r := r) hk
  exact ih k hk j (gd_kid hg (show k ∈ (NodeA.mk o m r ks).kids from hk)) (by omega) (by omega) (by omega)
 have hgm := gd_mapped hg fun k hk => push_good k (gd_kid hg (show k ∈ (NodeA.mk o m r ks).kids from hk))
 generalize iter j (fun self q => diff_mapped_diff_Push_1_body K self q) = S at ih' ⊢
 unfold diff_mapped_diff_Push_1_body
 have hf := hg.few
 rw [FewN_mk] at hf
 simp only [NodeA.op_mk, NodeA.name_mk, NodeA.num_mk, NodeA.kids_mk]
 refine ob _ (copy_leaf hf.1 (by omega)) ?_
 simp only [NodeA.op_mk, NodeA.name_mk, NodeA.num_mk, NodeA.kids_mk]
 unfold big at hb
 refine ob (ks.map pushS) (foldG ks.length (fun i => ((i : Int), (ks.take i).map pushS)) _ (fun g i hi => ?_) (fun g => ?_) (by omega) rfl) ?_
 ·have hx : ks[i]? = some ks[i] := List.getElem?_eq_getElem hi
  have hl : ((ks.take i).map pushS).length ≤ big := by rw [List.length_map, List.length_take]; unfold big; omega
  simp only [lt_tn hi, if_true, idx_nat, hx, Option.bind_some, ih' _ (List.getElem_mem hi), app_node hl]
  have et : (ks.take (i + 1)).map pushS = (ks.take i).map pushS ++ [pushS ks[i]] := by rw [List.take_add_one, hx, List.map_append]; rfl
  rw [w64s (by omega), et]
 ·simp only [lt_fn (Nat.le_refl ks.length), Bool.false_eq_true, if_false, List.take_length]
 ·rw [pushS_eq]
  rw [roomS_eq] at hR
  exact ob _ (Push1_eq hK0 (n := .mk o m r (ks.map pushS)) hgm (by omega)) rfl
theorem pushed_iter : ∀ (n : NodeA) (j : Nat), Gd (sortS n.op) n → n.size ≤ j → n.size ≤ K → 4 * roomS n ≤ K → iter j (fun self q => r13_pushed_body K self q) n = some (pushS n) := by
 refine NodeA.ind fun n ih => ?_
 intro j hg hj hKn hR
 have hp := n.size_pos
 have hkl := n.kids_lt
 have hb := FewN_len hg.few
 obtain ⟨j, rfl⟩ : ∃ i, j = i + 1 := ⟨j - 1, by omega⟩
 rw [iter_succ]
 obtain ⟨o, m, r, ks⟩ := n
 simp only [NodeA.op_mk, NodeA.name_mk, NodeA.num_mk, NodeA.kids_mk] at hg hkl hb ih
 have ih' : ∀ k ∈ ks, iter j (fun self q => r13_pushed_body K self q) k = some (pushS k) := fun k hk => by
  have hlt := NodeA.size_lt (show k ∈ (NodeA.mk o m r ks).kids from hk)
  have := room_kid (o := o) (m := m) (r := r) hk
  exact ih k hk j (gd_kid hg (show k ∈ (NodeA.mk o m r ks).kids from hk)) (by omega) (by omega) (by omega)
 have hgm := gd_mapped hg fun k hk => push_good k (gd_kid hg (show k ∈ (NodeA.mk o m r ks).kids from hk))
 generalize iter j (fun self q => r13_pushed_body K self q) = S at ih' ⊢
 unfold r13_pushed_body
 simp only [NodeA.op_mk, NodeA.name_mk, NodeA.num_mk, NodeA.kids_mk]
 unfold big at hb
 refine ob (ks.map pushS) (foldG ks.length (fun i => ((i : Int), (ks.take i).map pushS)) _ (fun g i hi => ?_) (fun g => ?_) (by omega) rfl) ?_
 ·have hx : ks[i]? = some ks[i] := List.getElem?_eq_getElem hi
  have hl : ((ks.take i).map pushS).length ≤ big := by rw [List.length_map, List.length_take]; unfold big; omega
  simp only [lt_tn hi, if_true, idx_nat, hx, Option.bind_some, ih' _ (List.getElem_mem hi), app_node hl]
  have et : (ks.take (i + 1)).map pushS = (ks.take i).map pushS ++ [pushS ks[i]] := by rw [List.take_add_one, hx, List.map_append]; rfl
  rw [w64s (by omega), et]
 ·simp only [lt_fn (Nat.le_refl ks.length), Bool.false_eq_true, if_false, List.take_length]
 ·rw [pushS_eq]
  rw [roomS_eq] at hR
  by_cases h : o = 12 ∨ o = 39
  ·have e : (if (o != (12 : Int)) then some (o != (39 : Int)) else some false : Option Bool) = some false := by rcases h with h | h <;> rw [h] <;> rfl
   refine ob _ (ob _ e rfl) ?_
   obtain ⟨a, h1, h2, ga, _⟩ := diff_kid (n := .mk o m r (ks.map pushS)) hgm h
   have ha : a.size < (NodeA.mk o m r (ks.map pushS)).size := NodeA.size_lt (by rw [h1]; simp)
   simp only [NodeA.kids_mk] at h1
   have i0 : idx (ks.map pushS) 0 = some a := by rw [h1]; rfl
   unfold roomN at hR
   obtain ⟨⟨d, b⟩, h3, h4⟩ := derive_eq (K := K) (by omega) ga.sh ga.few (by omega)
   simp only [Out.fin_go, i0, h3, Option.bind_some]
   unfold pushN
   rw [if_pos (show (NodeA.mk o m r (ks.map pushS)).op = 12 ∨ (NodeA.mk o m r (ks.map pushS)).op = 39 from h), h2]
   rw [h2] at hR
   cases b with
   | false =>
    have h4 : derS a = none := h4
    rw [h4]; rfl
   | true =>
    have h4 : derS a = some d := h4
    rw [h4] at hR ⊢
    simp only at hR
    have gd := (der_good a d (ga.sort ▸ ga) h4).1
    simp only [Bool.not_true, Bool.false_eq_true, if_false, contains_eq gd.few (show d.size ≤ K by omega), Option.bind_some, outM_eq]
    cases (occB 12 d || occB 39 d) <;> rfl
  ·have e : (if (o != (12 : Int)) then some (o != (39 : Int)) else some false : Option Bool) = some true := by
    rw [bne_t (fun h' => h (.inl h')), bne_t (fun h' => h (.inr h'))]; rfl
   refine ob _ (ob _ e rfl) ?_
   rw [pushN_other (by exact h)]; rfl
end
end Go.Proofs.YtphmckfokdkecaaGreat
namespace Go.Proofs.YtphmckfokdkecaaGreat
open Go Go.Iso Go.Proofs
set_option linter.unusedSimpArgs false
set_option linter.unusedVariables false
set_option maxRecDepth 100000
/-! ### How large a tree may be -/
def Bn (r : NodeA) : Prop := r.size + 1 ≤ 2 ^ r.lev
theorem pow2 {a b : Nat} (h : a ≤ b) : 2 ^ a ≤ 2 ^ b := Nat.pow_le_pow_right (by omega) h
theorem two_pow (a : Nat) : 2 ^ (1 + a) = 2 * 2 ^ a := by rw [Nat.add_comm, Nat.pow_succ']
theorem bn_kids {n : NodeA} (hl : n.kids.length ≤ 2) (h : ∀ k ∈ n.kids, Bn k) : Bn n := by
 obtain ⟨o, m, r, ks⟩ := n
 simp only [NodeA.kids_mk] at hl h
 unfold Bn at *
 match ks, hl with
 | [], _ => rw [szO, lv0]; decide
 | [a], _ =>
  have := h a (by simp)
  have h1 : 1 ≤ 2 ^ a.lev := Nat.one_le_two_pow
  rw [szA, lv1, two_pow]; omega
 | [a, b], _ =>
  have ha := h a (by simp)
  have hb := h b (by simp)
  have h1 := pow2 (Nat.le_max_left a.lev b.lev)
  have h2 := pow2 (Nat.le_max_right a.lev b.lev)
  rw [szB, lv2, two_pow]; omega
theorem shape_tab : ((List.range 63).all fun k => decide (((sortsS (k : Int)).getD []).length ≤ 2) && ((sortsS (k : Int)).getD []).all (fun z => decide (z ≠ 0)) && (!(sortS (k : Int) == 1) || ((sortsS (k : Int)).getD []).all (fun z => decide (z = 1))) && (!(sortS (k : Int) == 4) || decide (k = 55) || decide (k = 56))) = true := by decide +kernel
theorem shape_of {op : Int} (h : sortS op ≠ 0) : ((sortsS op).getD []).length ≤ 2 ∧ (∀ z ∈ (sortsS op).getD [], z ≠ 0) ∧ (sortS op = 1 → ∀ z ∈ (sortsS op).getD [], z = 1) ∧ (sortS op = 4 → op = 55 ∨ op = 56) := by
 obtain ⟨k, hk, rfl⟩ := sort_range h
 have := List.all_eq_true.1 shape_tab k (by simpa using hk)
 simp only [Bool.and_eq_true, Bool.or_eq_true, Bool.not_eq_true', decide_eq_true_eq, List.all_eq_true, beq_eq_false_iff_ne] at this
 obtain ⟨⟨⟨h1, h2⟩, h3⟩, h4⟩ := this
 exact ⟨h1, h2, fun h => h3.resolve_left (fun h' => h' h), fun h => by
  rcases h4 with (h4 | h4) | h4
  ·exact absurd h h4
  ·exact .inl (by omega)
  ·exact .inr (by omega)⟩
theorem sh_kids {n : NodeA} (hs : Sh n) (h0 : sortS n.op ≠ 0) (h54 : n.op ≠ 54) : n.kids.length ≤ 2 ∧ (∀ k ∈ n.kids, sortS k.op ≠ 0) ∧ (sortS n.op = 1 → ∀ k ∈ n.kids, sortS k.op = 1) := by
 obtain ⟨o, m, r, ks⟩ := n
 rw [Sh_mk] at hs
 simp only [NodeA.op_mk, NodeA.kids_mk] at h0 h54 ⊢
 obtain ⟨h1, h2, _, _⟩ := hs
 by_cases h10 : o = 10 ∨ o = 37
 ·have e : sortsC (.mk o m r ks) = List.replicate ks.length 1 := by
   unfold sortsC; simp only [NodeA.op_mk, NodeA.kids_mk]; rcases h10 with rfl | rfl <;> rfl
  rw [e] at h1
  have : ∀ k ∈ ks, sortS k.op = 1 := fun k hk => List.eq_of_mem_replicate (h1 ▸ List.mem_map_of_mem (f := fun x : NodeA => sortS x.op) hk)
  exact ⟨by have := h2 h10; omega, fun k hk => by rw [this k hk]; decide, fun _ => this⟩
 ·have e : sortsC (.mk o m r ks) = (sortsS o).getD [] := by
   unfold sortsC
   simp only [NodeA.op_mk, NodeA.kids_mk]
   rw [show (o == 10 || o == 37) = false by rw [Bool.eq_false_iff]; intro h; exact h10 (by simpa using h), beq_f h54]
   rfl
  rw [e] at h1
  obtain ⟨q1, q2, q3, _⟩ := shape_of h0
  have hm : ∀ k ∈ ks, sortS k.op ∈ (sortsS o).getD [] := fun k hk => h1 ▸ List.mem_map_of_mem (f := fun x : NodeA => sortS x.op) hk
  exact ⟨by rw [← h1] at q1; simpa using q1, fun k hk => q2 _ (hm k hk), fun h k hk => q3 h _ (hm k hk)⟩
theorem bn_term : ∀ n : NodeA, Sh n → sortS n.op = 1 → Bn n := NodeA.ind fun n ih => by
 intro hs h1
 have h54 : n.op ≠ 54 := by intro h; rw [h] at h1; revert h1; decide
 obtain ⟨q1, _, q3⟩ := sh_kids hs (by rw [h1]; decide) h54
 exact bn_kids q1 fun k hk => ih k hk (Sh_kid hs hk) (q3 h1 k hk)
theorem bn_form : ∀ (n d : NodeA), Gd (sortS n.op) n → sortS n.op = 2 → derS n = some d → Bn d := by
 refine NodeA.ind fun n ih => ?_
 intro d hg h2 hd
 have hs := hg.sh
 rw [derS_eq] at hd
 by_cases hop : n.op ∈ opsD
 ·obtain ⟨o, m, r, ks⟩ := n
  simp only [opsD, NodeA.op_mk, List.mem_cons, List.not_mem_nil, or_false] at hop
  simp only [NodeA.op_mk, NodeA.kids_mk] at ih hd hg h2 ⊢
  have term : ∀ (o2 : Int) a b, ks = [a, b] → (∀ a b, sortsC (.mk o m r [a, b]) = [1, 1]) → ((derS a).bind fun u => (derS b).map fun v => nodeN o2 [u, v]) = some d → Bn d := by
   rintro o2 a b rfl hs1 h
   obtain ⟨x, y, h1, h2, rfl⟩ := two_some h
   obtain ⟨ga, gb⟩ := gd_two_of hg (hs1 a b)
   have gx := (der_good a x (ga.sort ▸ ga) h1).1
   have gy := (der_good b y (gb.sort ▸ gb) h2).1
   rw [ga.sort] at gx
   rw [gb.sort] at gy
   refine bn_kids (by simp [NodeA.kids_mk]) fun k hk => ?_
   simp only [NodeA.kids_mk, List.mem_cons, List.not_mem_nil, or_false] at hk
   rcases hk with rfl | rfl
   ·exact bn_term _ gx.sh gx.sort
   ·exact bn_term _ gy.sh gy.sort
  have form : ∀ (o2 : Int) a b, ks = [a, b] → (∀ a b, sortsC (.mk o m r [a, b]) = [2, 2]) → ((derS a).bind fun u => (derS b).map fun v => nodeN o2 [u, v]) = some d → Bn d := by
   rintro o2 a b rfl hs1 h
   obtain ⟨x, y, h1, h2, rfl⟩ := two_some h
   obtain ⟨ga, gb⟩ := gd_two_of hg (hs1 a b)
   refine bn_kids (by simp [NodeA.kids_mk]) fun k hk => ?_
   simp only [NodeA.kids_mk, List.mem_cons, List.not_mem_nil, or_false] at hk
   rcases hk with rfl | rfl
   ·exact ih a (by simp) _ (ga.sort ▸ ga) ga.sort h1
   ·exact ih b (by simp) _ (gb.sort ▸ gb) gb.sort h2
  have leaf : ∀ {o : Int}, Bn (nodeN o []) := fun {o} => bn_kids (by simp [NodeA.kids_mk]) fun k hk => by simp [NodeA.kids_mk] at hk
  rcases hop with rfl | rfl | rfl | rfl | rfl | rfl | rfl | rfl | rfl | rfl | rfl | rfl | rfl | rfl | rfl | rfl | rfl | rfl | rfl | rfl | rfl
  ·cases h2
  ·cases h2
  ·cases h2
  ·cases h2
  ·cases h2
  ·cases h2
  ·cases h2
  ·cases h2
  ·cases h2
  ·cases h2
  ·cases hd; exact leaf
  ·cases hd; exact leaf
  ·obtain ⟨a, b, rfl⟩ := kids_two hs (a := 1) (b := 1) rfl; exact term 22 a b rfl (fun _ _ => rfl) hd
  ·obtain ⟨a, b, rfl⟩ := kids_two hs (a := 1) (b := 1) rfl; exact term 22 a b rfl (fun _ _ => rfl) hd
  ·obtain ⟨a, b, rfl⟩ := kids_two hs (a := 1) (b := 1) rfl; exact term 25 a b rfl (fun _ _ => rfl) hd
  ·obtain ⟨a, b, rfl⟩ := kids_two hs (a := 1) (b := 1) rfl; exact term 25 a b rfl (fun _ _ => rfl) hd
  ·obtain ⟨a, b, rfl⟩ := kids_two hs (a := 1) (b := 1) rfl; exact term 27 a b rfl (fun _ _ => rfl) hd
  ·obtain ⟨a, b, rfl⟩ := kids_two hs (a := 1) (b := 1) rfl; exact term 27 a b rfl (fun _ _ => rfl) hd
  ·obtain ⟨a, b, rfl⟩ := kids_two hs (a := 2) (b := 2) rfl; exact form 29 a b rfl (fun _ _ => rfl) hd
  ·obtain ⟨a, b, rfl⟩ := kids_two hs (a := 2) (b := 2) rfl; exact form 29 a b rfl (fun _ _ => rfl) hd
  ·cases hd
   obtain rfl := kids_nil hs rfl
   refine bn_kids (by simp [NodeA.kids_mk]) fun k hk => ?_
   simp only [NodeA.kids_mk, List.mem_singleton] at hk
   subst hk
   exact bn_kids (by simp [NodeA.kids_mk]) fun k hk => by simp [NodeA.kids_mk] at hk
 ·rw [derB_none hop] at hd; cases hd
theorem rate_room {k : NodeA} {l : Nat} (hg : Gd 4 k) (hl : (pushS k).lev ≤ l) : 12 * (pushS k).size ≤ k.size * (2 * 2 ^ l) + 12 * k.size := by
 have h0 : sortS k.op ≠ 0 := by rw [hg.sort]; decide
 have hop := (shape_of h0).2.2.2 hg.sort
 obtain ⟨o, m, r, ks⟩ := k
 simp only [NodeA.op_mk] at hop
 have hs := hg.sh
 rcases hop with rfl | rfl
 ·obtain ⟨t, rfl⟩ := kids_one hs (a := 1) rfl
  have gt := gd_one_of hg (s := 1) rfl
  rw [pushS_eq, pushN_other (by simp only [NodeA.op_mk]; omega)] at hl ⊢
  simp only [List.map_cons, List.map_nil] at hl ⊢
  rw [lv1] at hl
  have gt' := (push_good t (gt.sort ▸ gt)).1
  rw [gt.sort] at gt'
  have hb : (pushS t).size + 1 ≤ 2 ^ (pushS t).lev := bn_term _ gt'.sh gt'.sort
  rw [szA, szA]
  by_cases h1 : t.size = 1
  ·obtain ⟨o', m', r', ks'⟩ := t
   have hks : ks' = [] := by
    rw [NodeA.size_mk] at h1
    have := sum_ge_len (l := ks')
    exact List.length_eq_zero_iff.1 (by omega)
   subst hks
   have hp : pushS (.mk o' m' r' []) = .mk o' m' r' [] := by
    rw [pushS_eq]
    refine pushN_other ?_
    simp only [NodeA.op_mk]
    intro h
    have hsh := gt.sh
    rcases h with rfl | rfl
    ·obtain ⟨a, ha⟩ := kids_one hsh (a := 1) rfl; cases ha
    ·obtain ⟨a, ha⟩ := kids_one hsh (a := 2) rfl; cases ha
   rw [hp, szO]; omega
  ·have hp := t.size_pos
   have h3 : 3 * (2 * 2 ^ l) ≤ (1 + t.size) * (2 * 2 ^ l) := Nat.mul_le_mul_right _ (by omega)
   have h4 : 2 * 2 ^ (pushS t).lev ≤ 2 ^ l := by rw [← two_pow]; exact pow2 hl
   omega
 ·obtain rfl := kids_nil hs rfl
  rw [pushS_eq, pushN_other (by simp only [NodeA.op_mk]; omega)]
  simp only [List.map_nil]
  rw [szO]; omega
theorem rates_room {l : Nat} : ∀ R : List NodeA, (∀ k ∈ R, Gd 4 k ∧ (pushS k).lev ≤ l) → 12 * ((R.map pushS).map NodeA.size).sum ≤ (R.map NodeA.size).sum * (2 * 2 ^ l) + 12 * (R.map NodeA.size).sum := by
 intro R
 induction R with
 | nil => intro _; simp
 | cons k R ih =>
  intro h
  have h1 := rate_room (h k (by simp)).1 (h k (by simp)).2
  have h2 := ih fun x hx => h x (List.mem_cons_of_mem _ hx)
  simp only [List.map_cons, List.sum_cons, Nat.add_mul]
  omega
def PZ (n : NodeA) : Prop := 12 * ((pushS n).size + 1) ≤ (12 + n.size) * 2 ^ (pushS n).lev + 12 * n.size
theorem pz_bn {n : NodeA} (h : Bn (pushS n)) : PZ n := by
 unfold PZ Bn at *
 rw [Nat.add_mul]
 omega
theorem push_size : ∀ n : NodeA, Gd (sortS n.op) n → sortS n.op ≠ 0 → PZ n := NodeA.ind fun n ih => by
 intro hg h0
 have hg' := (push_good n hg).1
 by_cases h1 : sortS n.op = 1
 ·exact pz_bn (bn_term _ hg'.sh (by rw [hg'.sort]; exact h1))
 obtain ⟨o, m, r, ks⟩ := n
 simp only [NodeA.op_mk, NodeA.kids_mk] at ih hg h0 h1
 have hgk : ∀ k ∈ ks, Gd (sortS k.op) k := fun k hk => gd_kid hg (show k ∈ (NodeA.mk o m r ks).kids from hk)
 have hgm := gd_mapped hg fun k hk => push_good k (hgk k hk)
 rcases pushN_cases (.mk o m r (ks.map pushS)) with h | ⟨h, hd⟩
 ·have e : pushS (.mk o m r ks) = .mk o m r (ks.map pushS) := by rw [pushS_eq, h]
  by_cases h54 : o = 54
  ·subst h54
   -- a flow
   have hs := hg.sh
   rw [Sh_mk] at hs
   have hs1 := hs.1
   have ec : sortsC (.mk 54 m r ks) = List.replicate (ks.length - 1) 4 ++ [2] := rfl
   rw [ec] at hs1
   have hne : ks ≠ [] := by rintro rfl; simp at hs1
   obtain ⟨R, f, rfl⟩ : ∃ R f, ks = R ++ [f] := ⟨ks.dropLast, ks.getLast hne, (List.dropLast_concat_getLast hne).symm⟩
   have hlen : (R ++ [f]).length - 1 = R.length := by simp
   rw [hlen, List.map_append] at hs1
   obtain ⟨e1, e2⟩ := List.append_inj hs1 (by simp)
   have hf2 : sortS f.op = 2 := by simpa using e2
   have hR4 : ∀ k ∈ R, sortS k.op = 4 := fun k hk => List.eq_of_mem_replicate (e1 ▸ List.mem_map_of_mem (f := fun x : NodeA => sortS x.op) hk)
   have hlev : ∀ k ∈ R ++ [f], (pushS k).lev ≤ (pushS (.mk 54 m r (R ++ [f]))).lev - 1 := fun k hk => by
    rw [e]
    have := lev_kid (show pushS k ∈ (NodeA.mk 54 m r ((R ++ [f]).map pushS)).kids from List.mem_map_of_mem hk)
    omega
   have hpos : 1 ≤ (pushS (.mk 54 m r (R ++ [f]))).lev := lev_pos _
   have hz := ih f (by simp) (hgk f (by simp)) (by rw [hf2]; decide)
   have hl := hlev f (by simp)
   have hrr := rates_room (l := (pushS (.mk 54 m r (R ++ [f]))).lev - 1) R fun k hk => ⟨hR4 k hk ▸ hgk k (by simp [hk]), hlev k (by simp [hk])⟩
   unfold PZ at hz ⊢
   generalize hL : (pushS (.mk 54 m r (R ++ [f]))).lev = L at *
   have h2L : 2 ^ L = 2 * 2 ^ (L - 1) := by rw [← two_pow]; congr 1; omega
   have hm := Nat.mul_le_mul_left (12 + f.size) (pow2 hl)
   rw [e, NodeA.size_mk, NodeA.size_mk]
   simp only [List.map_append, List.map_cons, List.map_nil, List.sum_append, List.sum_cons, List.sum_nil, Nat.add_zero]
   rw [h2L]
   have hc : f.size * (2 * 2 ^ (L - 1)) = 2 * (f.size * 2 ^ (L - 1)) := Nat.mul_left_comm _ _ _
   simp only [Nat.add_mul] at *
   omega
  ·obtain ⟨q1, q2, _⟩ := sh_kids hg.sh h0 h54
   simp only [NodeA.kids_mk] at q1 q2
   match ks, q1 with
   | [], _ =>
    unfold PZ
    rw [e]
    simp only [List.map_nil]
    rw [szO, lv0]; omega
   | [a], _ =>
    have hz := ih a (by simp) (hgk a (by simp)) (q2 a (by simp))
    unfold PZ at hz ⊢
    rw [e]
    simp only [List.map_cons, List.map_nil]
    rw [szA, szA, lv1, two_pow]
    have hc : a.size * (2 * 2 ^ (pushS a).lev) = 2 * (a.size * 2 ^ (pushS a).lev) := Nat.mul_left_comm _ _ _
    simp only [Nat.add_mul] at *
    omega
   | [a, b], _ =>
    have ha := ih a (by simp) (hgk a (by simp)) (q2 a (by simp))
    have hb := ih b (by simp) (hgk b (by simp)) (q2 b (by simp))
    unfold PZ at ha hb ⊢
    rw [e]
    simp only [List.map_cons, List.map_nil]
    rw [szB, szB, lv2, two_pow]
    have m1 := Nat.mul_le_mul_left (12 + a.size) (pow2 (Nat.le_max_left (pushS a).lev (pushS b).lev))
    have m2 := Nat.mul_le_mul_left (12 + b.size) (pow2 (Nat.le_max_right (pushS a).lev (pushS b).lev))
    generalize 2 ^ max (pushS a).lev (pushS b).lev = X at *
    simp only [Nat.add_mul] at *
    have : a.size * (2 * X) = 2 * (a.size * X) := by rw [Nat.mul_left_comm]
    have : b.size * (2 * X) = 2 * (b.size * X) := by rw [Nat.mul_left_comm]
    omega
 ·refine pz_bn ?_
  rw [pushS_eq]
  obtain ⟨a, k1, k2, ga, hs12⟩ := diff_kid (n := .mk o m r (ks.map pushS)) hgm h
  simp only [NodeA.op_mk] at hs12 ga
  rcases hs12 with hh | hh
  ·exact absurd hh h1
  ·rw [k2] at hd
   rw [hh] at ga
   exact bn_form a _ (ga.sort ▸ ga) ga.sort hd
end Go.Proofs.YtphmckfokdkecaaGreat
namespace Go.Proofs.YtphmckfokdkecaaGreat
open Go Go.Iso Go.Proofs
set_option linter.unusedSimpArgs false
set_option linter.unusedVariables false
set_option maxRecDepth 100000
/-! ### Trees of any size are checked -/
theorem SizeF_iter {K : Nat} : ∀ (k : Nat) (n : NodeA), n.size ≤ k → n.size ≤ K → FewN n → n.size ≤ 9000000000000000000 → iter k (fun self q => r08_Size_body K self q) n = some (n.size : Int) := by
 intro k
 induction k with
 | zero => intro n h; have := n.size_pos; omega
 | succ k ih =>
  intro n h hK hf hb
  rw [iter_succ]
  generalize iter k (fun self q => r08_Size_body K self q) = S at ih ⊢
  unfold r08_Size_body
  have hl := n.kids_lt
  have hsz : n.size = 1 + (n.kids.map NodeA.size).sum := by cases n with | mk o m r ks => rw [NodeA.size_mk]; rfl
  have hb' := FewN_len hf
  unfold big at hb'
  refine ob _ (foldG n.kids.length (fun i => (((1 + ((n.kids.take i).map NodeA.size).sum : Nat) : Int), (i : Int))) (n.size : Int) (fun g i hi => ?_) (fun g => ?_) (by omega) rfl) rfl
  ·have hx : n.kids[i]? = some n.kids[i] := List.getElem?_eq_getElem hi
   have hm := List.getElem_mem hi
   have hs := NodeA.size_lt hm
   have h1 := sum_take (f := NodeA.size) hx
   have h2 := sum_take_le (l := n.kids) (f := NodeA.size) (i := i + 1)
   simp only [lt_t hx, if_true, idx_nat, hx, Option.bind_some, ih _ (show n.kids[i].size ≤ k by omega) (by omega) (FewN_kid hf hm) (by omega)]
   rw [w64s (by omega), w64 (by omega) (by omega), h1]
   congr 2
   omega
  ·simp only [lt_f, Bool.false_eq_true, if_false, List.take_length, hsz]
theorem SizeF_some {K : Nat} : ∀ (k : Nat) (n : NodeA), n.size ≤ k → n.size ≤ K → FewN n → ∃ z, iter k (fun self q => r08_Size_body K self q) n = some z := by
 intro k
 induction k with
 | zero => intro n h; have := n.size_pos; omega
 | succ k ih =>
  intro n h hK hf
  rw [iter_succ]
  generalize iter k (fun self q => r08_Size_body K self q) = S at ih ⊢
  unfold r08_Size_body
  have hl := n.kids_lt
  have hb' := FewN_len hf
  unfold big at hb'
  obtain ⟨o, h1, _⟩ := loopE (K := K) (fun i (s : Int × Int) => s.2 = i) (fun _ _ (_ : Int) => True) (f := fun again (i1_0, i1_1) => if (decide (i1_1 < (n.kids.length : Int))) then (idx n.kids i1_1).bind fun x6 => (S (x6)).bind fun r8 => again (IntKind.wrap .i64 (i1_0 + r8), IntKind.wrap .i64 (i1_1 + (1 : Int))) else some i1_0) n.kids.length (fun g i s hi hj hg => by
    obtain ⟨a, b⟩ := s
    simp only at hj
    subst hj
    have hx : n.kids[i]? = some n.kids[i] := List.getElem?_eq_getElem hi
    have hm := List.getElem_mem hi
    have hs := NodeA.size_lt hm
    obtain ⟨z, hz⟩ := ih n.kids[i] (by omega) (by omega) (FewN_kid hf hm)
    simp only [lt_t hx, if_true, idx_nat, hx, Option.bind_some, hz]
    rw [w64s (by omega)]
    obtain ⟨o, h1, _⟩ := hg (IntKind.wrap .i64 (a + z), ((i + 1 : Nat) : Int)) rfl
    exact ⟨o, h1, trivial⟩) (fun g s hj => by
    obtain ⟨a, b⟩ := s
    simp only at hj
    subst hj
    simp only [lt_f, Bool.false_eq_true, if_false]
    exact ⟨_, rfl, trivial⟩) 0 (1, 0) rfl (Nat.zero_le _) (by omega)
  exact ⟨o, ob o h1 rfl⟩
theorem LevelsF_iter {K : Nat} : ∀ (k : Nat) (n : NodeA), n.size ≤ k → n.size ≤ K → FewN n → n.lev ≤ big → iter k (fun self q => r08_Levels_body K self q) n = some (n.lev : Int) := by
 intro k
 induction k with
 | zero => intro n h; have := n.size_pos; omega
 | succ k ih =>
  intro n h hK hf hb
  rw [iter_succ]
  generalize iter k (fun self q => r08_Levels_body K self q) = S at ih ⊢
  unfold r08_Levels_body
  have hl := n.kids_lt
  have hlb := FewN_len hf
  have hll : n.lev ≤ 1099511627776 := hb
  unfold big at hlb
  refine ob (((n.kids.map NodeA.lev).foldl max 0 : Nat) : Int) (foldG n.kids.length (fun i => (((((n.kids.take i).map NodeA.lev).foldl max 0 : Nat) : Int), (i : Int))) _ (fun g i hi => ?_) (fun g => ?_) (by omega) rfl) ?_
  ·have hx : n.kids[i]? = some n.kids[i] := List.getElem?_eq_getElem hi
   have hm := List.getElem_mem hi
   have hs := NodeA.size_lt hm
   simp only [lt_t hx, if_true, idx_nat, hx, Option.bind_some, ih _ (show n.kids[i].size ≤ k by omega) (by omega) (FewN_kid hf hm) (by have := lev_kid hm; omega)]
   rw [w64s (by omega), List.take_add_one, hx]
   congr 2
   simp only [Option.toList_some, List.map_append, List.map_cons, List.map_nil, List.foldl_append, List.foldl_cons, List.foldl_nil]
   split <;> omega
  ·simp only [lt_f, Bool.false_eq_true, if_false, List.take_length]
  ·rw [lev_eq] at hll ⊢
   rw [w64 (by omega) (by omega)]
   congr 1
   omega
theorem withinF_iter {K : Nat} : ∀ (k : Nat) (n : NodeA) (L v : Int), n.size ≤ k → n.size ≤ K → FewN n → 0 ≤ L → L ≤ 1000000 → 0 ≤ v → v ≤ 1000000 → ∃ r, iter k (fun self q => tree_within_body K self q.1 q.2.1 q.2.2) (n, L, v) = some r ∧ Within n L v r := by
 intro k
 induction k with
 | zero => intro n L v h; have := n.size_pos; omega
 | succ k ih =>
  intro n L v h hK hf hL hL' hv hv'
  rw [iter_succ]
  generalize iter k (fun self q => tree_within_body K self q.1 q.2.1 q.2.2) = S at ih ⊢
  have hl := n.kids_lt
  have hp := n.size_pos
  have hlv := lev_eq n
  have hsz : n.size = 1 + (n.kids.map NodeA.size).sum := by cases n with | mk o m r ks => rw [NodeA.size_mk]; rfl
  have hb' := FewN_len hf
  unfold big at hb'
  have e1 : IntKind.wrap .i64 (L - 1) = L - 1 := w64 (by omega) (by omega)
  have e2 : IntKind.wrap .i64 (v - 1) = v - 1 := w64 (by omega) (by omega)
  unfold tree_within_body
  simp only [e1, e2]
  by_cases hc : L - 1 < 0 ∨ v ≤ 0
  ·refine ⟨(false, L - 1), ?_, ?_⟩
   ·have : (if decide (L - 1 < 0) = true then some true else some (decide (v ≤ 0))) = some true := by
     rcases hc with h | h
     ·rw [decide_eq_true h]; rfl
     ·rw [decide_eq_true h]; split <;> rfl
    rw [this]; rfl
   ·unfold Within
    rw [if_neg]
    rintro ⟨h1, h2⟩
    rcases hc with h | h <;> omega
  ·have : (if decide (L - 1 < 0) = true then some true else some (decide (v ≤ 0))) = some false := by
    have h1 : decide (L - 1 < 0) = false := by simp; omega
    have h2 : decide (v ≤ 0) = false := by simp; omega
    rw [h1, h2]; rfl
   rw [this]
   simp only [Option.bind_some, Bool.false_eq_true, if_false, Out.fin_go]
   have hlev : (∀ x ∈ n.kids, (x.lev : Int) ≤ v - 1) ↔ (n.lev : Int) ≤ v := by
    rw [hlv]
    constructor
    ·intro hq
     have : (n.kids.map NodeA.lev).foldl max 0 ≤ (v - 1).toNat := foldl_max_le.2 fun x hx => by
      obtain ⟨y, hy, rfl⟩ := List.mem_map.1 hx
      have := hq y hy; omega
     omega
    ·intro hq x hx
     have := foldl_max_le.1 (Nat.le_refl ((n.kids.map NodeA.lev).foldl max 0)) _ (List.mem_map_of_mem hx)
     omega
   refine ex_ob (Exists.imp (fun o ho => ⟨ho.1, ?_⟩) (loopE (fun i (s : Int × Int) => s.1 = i ∧ 0 ≤ s.2 ∧ s.2 ≤ 1000000)
    (fun i s o => if ((((n.kids.drop i).map NodeA.size).sum : Nat) : Int) ≤ s.2 ∧ (∀ x ∈ n.kids.drop i, (x.lev : Int) ≤ v - 1) then o = .go (s.2 - ((((n.kids.drop i).map NodeA.size).sum : Nat) : Int)) else ∃ z, o = .out (false, z))
    n.kids.length (fun g i s hi hj hg => ?_) (fun g s hj => ?_) 0 (0, L - 1) ⟨rfl, by simp only; omega, by simp only; omega⟩ (Nat.zero_le _) (by omega)))
   ·have h2 := ho.2
    rw [List.drop_zero] at h2
    simp only at h2
    by_cases hc3 : ((((n.kids).map NodeA.size).sum : Nat) : Int) ≤ L - 1 ∧ ∀ x ∈ n.kids, (x.lev : Int) ≤ v - 1
    ·rw [if_pos hc3] at h2
     subst h2
     refine ⟨(true, L - n.size), ?_, ?_⟩
     ·simp only [Out.fin_go, hsz]; congr 2; omega
     ·unfold Within; rw [if_pos ⟨by omega, hlev.1 hc3.2⟩]
    ·rw [if_neg hc3] at h2
     obtain ⟨z, rfl⟩ := h2
     refine ⟨(false, z), rfl, ?_⟩
     unfold Within; rw [if_neg fun hq => hc3 ⟨by omega, hlev.2 hq.2⟩]
   ·obtain ⟨s1, M⟩ := s
    obtain ⟨rfl, hM, hM'⟩ := hj
    simp only at hM hM'
    have hx : n.kids[i]? = some n.kids[i] := List.getElem?_eq_getElem hi
    have hm := List.getElem_mem hi
    have hs := NodeA.size_lt hm
    obtain ⟨r, hr, hw⟩ := ih n.kids[i] M (v - 1) (by omega) (by omega) (FewN_kid hf hm) hM hM' (by omega) (by omega)
    simp only [lt_t hx, if_true, idx_nat, hx, Option.bind_some, hr]
    have hdrop := List.drop_eq_getElem_cons hi
    have hsum : ((n.kids.drop i).map NodeA.size).sum = n.kids[i].size + ((n.kids.drop (i + 1)).map NodeA.size).sum := by rw [hdrop, List.map_cons, List.sum_cons]
    have hall : (∀ x ∈ n.kids.drop i, (x.lev : Int) ≤ v - 1) ↔ (n.kids[i].lev : Int) ≤ v - 1 ∧ ∀ x ∈ n.kids.drop (i + 1), (x.lev : Int) ≤ v - 1 := by rw [hdrop]; exact List.forall_mem_cons
    unfold Within at hw
    by_cases hok : (n.kids[i].size : Int) ≤ M ∧ (n.kids[i].lev : Int) ≤ v - 1
    ·rw [if_pos hok] at hw
     subst hw
     simp only [Bool.not_true, Bool.false_eq_true, if_false]
     rw [w64s (by omega)]
     obtain ⟨o, h1, h2⟩ := hg (((i + 1 : Nat) : Int), M - n.kids[i].size) ⟨rfl, by simp only; omega, by simp only; omega⟩
     simp only at h2
     refine ⟨o, h1, ?_⟩
     by_cases hc2 : ((((n.kids.drop (i + 1)).map NodeA.size).sum : Nat) : Int) ≤ M - n.kids[i].size ∧ ∀ x ∈ n.kids.drop (i + 1), (x.lev : Int) ≤ v - 1
     ·rw [if_pos hc2] at h2
      rw [if_pos ⟨by rw [hsum]; omega, hall.2 ⟨hok.2, hc2.2⟩⟩, h2, hsum]
      congr 1
      omega
     ·rw [if_neg hc2] at h2
      rw [if_neg fun hq => hc2 ⟨by rw [hsum] at hq; omega, (hall.1 hq.2).2⟩]
      exact h2
    ·rw [if_neg hok] at hw
     rw [hw]
     refine ⟨.out (false, r.2), rfl, ?_⟩
     rw [if_neg fun hq => hok ⟨by rw [hsum] at hq; omega, (hall.1 hq.2).1⟩]
     exact ⟨_, rfl⟩
   ·obtain ⟨s1, M⟩ := s
    obtain ⟨rfl, hM, hM'⟩ := hj
    simp only at hM hM'
    refine ⟨.go M, by simp only [lt_f, Bool.false_eq_true, if_false], ?_⟩
    rw [List.drop_length, if_pos ⟨by simpa using hM, fun x hx => by cases hx⟩]; simp
theorem tree_withinF_eq {K : Nat} {n : NodeA} (hK : n.size ≤ K) (hf : FewN n) : ∃ r, tree_within K n 4000 60 = some r ∧ Within n 4000 60 r :=
 withinF_iter K n 4000 60 hK hK hf (by omega) (by omega) (by omega) (by omega)
theorem tree_CheckF_eq {K : Nat} {n : NodeA} {s : Int} (hK : 12 < K) (hK2 : 2 * n.size ≤ K) (hf : FewN n) : tree_Check K n s = some (checkS n s) := by
 unfold tree_Check checkS
 simp only [orO, Option.bind_some]
 cases hs : (decide (s < 1) || decide (3 < s)) with
 | true => rfl
 | false =>
  simp only [Bool.false_eq_true, if_false, Option.bind_some, Out.fin_go]
  obtain ⟨r, hr, hw⟩ := tree_withinF_eq (show n.size ≤ K by omega) hf
  rw [hr]
  simp only [Option.bind_some]
  unfold Within at hw
  by_cases hc : (n.size : Int) ≤ 4000 ∧ (n.lev : Int) ≤ 60
  ·rw [if_pos hc] at hw
   subst hw
   rw [decide_eq_true hc.1, decide_eq_true hc.2]
   simp only [Bool.not_true, Bool.false_eq_true, if_false, tree_Sort_eq, Option.bind_some, Bool.and_self, if_true]
   by_cases h2 : sortS n.op = s
   ·have e : (sortS n.op != s) = false := by simp [h2]
    have h0 : sortS n.op ≠ 0 := by rw [h2]; intro hz; subst hz; revert hs; decide
    rw [e]
    simp only [Bool.false_eq_true, if_false]
    have : tree_formed K n (Tree_placeA.mk false false false) = some (okS n false false false) := formed_iter hK K n ⟨false, false, false⟩ (by omega) (by omega) (by unfold big; omega) h0
    rw [this]
    simp only [Option.bind_some]
    cases okS n false false false <;> rfl
   ·have e : (sortS n.op != s) = true := by simp [h2]
    rw [e]; rfl
  ·rw [if_neg hc] at hw
   rw [hw]
   have : (decide ((n.size : Int) ≤ 4000) && decide ((n.lev : Int) ≤ 60)) = false := by
    rw [Bool.and_eq_false_iff, decide_eq_false_iff_not, decide_eq_false_iff_not]
    by_cases h1 : (n.size : Int) ≤ 4000
    ·exact .inr fun h2 => hc ⟨h1, h2⟩
    ·exact .inl h1
   rw [this]; rfl
theorem r08_CheckF_eq {K : Nat} {n : NodeA} {s : Int} (hK : 12 < K) (hK2 : 2 * n.size ≤ K) (hf : FewN n) (hw : n.words) (hlb : n.lev ≤ big) (hsz : (n.lev : Int) ≤ 60 → n.size ≤ 9000000000000000000) : r08_Check K n s = some (checkS n s) := by
 unfold r08_Check checkS
 simp only [orO, Option.bind_some]
 cases hs : (decide (s < 1) || decide (3 < s)) with
 | true => rfl
 | false =>
  have hlv := LevelsF_iter (K := K) K n (by omega) (by omega) hf hlb
  by_cases h60 : (n.lev : Int) ≤ 60
  ·have hsv := SizeF_iter (K := K) K n (by omega) (by omega) hf (hsz h60)
   simp only [Bool.false_eq_true, if_false, show r08_Size K n = some (n.size : Int) from hsv, show r08_Levels K n = some (n.lev : Int) from hlv, Option.bind_some, orO]
   by_cases hc : (n.size : Int) ≤ 4000
   ·have e1 : decide ((4000 : Int) < (n.size : Int)) = false := by simp; omega
    have e2 : decide ((60 : Int) < (n.lev : Int)) = false := by simp; omega
    rw [e1, e2, decide_eq_true hc, decide_eq_true h60]
    simp only [Bool.or_self, Bool.false_eq_true, if_false, r08_Sort_eq, Option.bind_some, Bool.and_self, if_true]
    by_cases h2 : sortS n.op = s
    ·have e : (sortS n.op != s) = false := by simp [h2]
     have e' : (sortS n.op == s) = true := by simp [h2]
     have h0 : s ≠ 0 := by intro hz; subst hz; revert hs; decide
     rw [e]
     simp only [Bool.false_eq_true, if_false, r08_well_eq hK hK2 (show n.size ≤ big by unfold big; omega) hw h0, Option.bind_some, e', Bool.true_and]
     cases okS n false false false <;> rfl
    ·have e : (sortS n.op != s) = true := by simp [h2]
     rw [e]; rfl
   ·have e1 : decide ((4000 : Int) < (n.size : Int)) = true := by simp; omega
    have e3 : decide ((n.size : Int) ≤ 4000) = false := by simp; omega
    rw [e1, e3]; rfl
  ·obtain ⟨z, hz⟩ := SizeF_some (K := K) K n (by omega) (by omega) hf
   have e2 : decide ((60 : Int) < (n.lev : Int)) = true := by simp; omega
   have e3 : decide ((n.lev : Int) ≤ 60) = false := by simp; omega
   simp only [Bool.false_eq_true, if_false, show r08_Size K n = some z from hz, show r08_Levels K n = some (n.lev : Int) from hlv, Option.bind_some, orO, e2, e3, Bool.or_true, Bool.and_false, if_true]
end Go.Proofs.YtphmckfokdkecaaGreat
namespace Go.Proofs.YtphmckfokdkecaaGreat
open Go Go.Iso Go.Proofs
set_option linter.unusedSimpArgs false
set_option linter.unusedVariables false
set_option linter.unusedSectionVars false
set_option maxRecDepth 100000
/-! ### Push -/
def pushA (n : NodeA) : NodeA × Int :=
 if sortS n.op = 0 ∨ sortS n.op = 4 then (zN, 80) else if checkS n (sortS n.op) ≠ 0 then (zN, checkS n (sortS n.op)) else endA (pushS n) (sortS n.op)
section
variable {n : NodeA}
theorem pushA_bad (h : sortS n.op = 0 ∨ sortS n.op = 4) : pushA n = (zN, 80) := by unfold pushA; rw [if_pos h]
theorem pushA_chk (h : ¬ (sortS n.op = 0 ∨ sortS n.op = 4)) (hc : checkS n (sortS n.op) ≠ 0) : pushA n = (zN, checkS n (sortS n.op)) := by unfold pushA; rw [if_neg h, if_pos hc]
theorem pushA_ok (h : ¬ (sortS n.op = 0 ∨ sortS n.op = 4)) (hc : checkS n (sortS n.op) = 0) : pushA n = endA (pushS n) (sortS n.op) := by unfold pushA; rw [if_neg h, if_neg (by simpa using hc)]
end
theorem check_size {n : NodeA} {s : Int} (h : checkS n s = 0) : n.size ≤ 4000 := by
 unfold checkS at h
 split at h
 ·cases h
 ·split at h
  ·next h1 =>
   simp only [Bool.and_eq_true, decide_eq_true_eq] at h1
   omega
  ·cases h
theorem checkedF_eq {K : Nat} {d : NodeA} {s : Int} (hK : 12 < K) (hK2 : 2 * d.size ≤ K) (hf : FewN d) (hw : d.words) (hlb : d.lev ≤ big) (hsz : (d.lev : Int) ≤ 60 → d.size ≤ 9000000000000000000) : r13_checked K d s = some (endA d s) := by
 unfold r13_checked
 refine ob _ (r08_CheckF_eq hK hK2 hf hw hlb hsz) ?_
 by_cases h : checkS d s = 0
 ·rw [endA_ok h, h]; rfl
 ·rw [endA_bad h, if_pos (by simpa using h)]
section
variable {K : Nat} {n : NodeA} (hK : 100000 ≤ K) (hK2 : 4 * roomS n + 4 * n.size ≤ K) (hb : n.size ≤ big) (hw : n.words) (hs : n.size ≤ 60) (hl : n.lev ≤ 20)
include hK hK2 hb hw hs hl
theorem push_facts (hc : checkS n (sortS n.op) = 0) (h0 : sortS n.op ≠ 0) : Gd (sortS n.op) n ∧ Gd (sortS n.op) (pushS n) ∧ (pushS n).lev ≤ big ∧ ((pushS n).lev ≤ 60 → (pushS n).size ≤ 9000000000000000000) ∧ 4 * (pushS n).size ≤ K := by
 have hg := fine_gd ⟨_, _, _, (check_ok hc).1⟩ hw hb
 refine ⟨hg, (push_good n hg).1, ?_, fun h60 => ?_, ?_⟩
 ·have h1 := push_lev n hg
  have h2 := pow3 hl
  have h3 : (3 : Nat) ^ 20 ≤ big := by decide
  omega
 ·have hz := push_size n hg h0
  unfold PZ at hz
  have h1 := pow2 h60
  have h2 := Nat.mul_le_mul (show 12 + n.size ≤ 72 by omega) h1
  have h3 : 72 * (2 : Nat) ^ 60 = 83010348331692982272 := by decide
  omega
 ·have := push_room n
  omega
theorem Push_eq : diff_Push K n = some (pushA n) := by
 unfold diff_Push
 refine ob _ (root_eq (by omega) (by omega) hb) ?_
 unfold rootA
 by_cases h04 : sortS n.op = 0 ∨ sortS n.op = 4
 ·rw [pushA_bad h04]; simp only [if_pos h04]; rfl
 simp only [if_neg h04]
 by_cases hc : checkS n (sortS n.op) = 0
 ·rw [bne_f hc, pushA_ok h04 hc]
  simp only [Bool.false_eq_true, if_false]
  obtain ⟨hg, gp, h1, h2, h3⟩ := push_facts hK hK2 hb hw hs hl hc (by omega)
  refine ob _ (pmapped_iter (by omega) n K hg (by omega) (by omega) (by omega)) ?_
  refine ob _ (tree_CheckF_eq (by omega) (by omega) gp.few) ?_
  by_cases hd : checkS (pushS n) (sortS n.op) = 0
  ·rw [bne_f hd, endA_ok hd]; rfl
  ·rw [bne_t hd, endA_bad hd]; rfl
 ·rw [bne_t hc, pushA_chk h04 hc]; rfl
theorem rPush_eq : r13_Push K n = some (pushA n) := by
 unfold r13_Push
 refine ob _ r08_Sort_eq ?_
 have h5 := sort5 n.op
 simp only [orO, Option.bind_some, outM_eq]
 by_cases h04 : sortS n.op = 0 ∨ sortS n.op = 4
 ·have e : (decide (sortS n.op < 1) || decide (3 < sortS n.op)) = true := by
   rcases h04 with h | h <;> rw [h] <;> rfl
  simp only [e, if_true, Option.bind_some, Out.fin_out]
  rw [pushA_bad h04]
 ·have e : (decide (sortS n.op < 1) || decide (3 < sortS n.op)) = false := by
   rw [decide_eq_false (by omega), decide_eq_false (by omega)]; rfl
  simp only [e, Bool.false_eq_true, if_false, Option.bind_some, Out.fin_go]
  refine ob _ (r08_Check_eq (by omega) (by omega) hb hw) ?_
  by_cases hc : checkS n (sortS n.op) = 0
  ·rw [bne_f hc, pushA_ok h04 hc]
   simp only [Bool.false_eq_true, if_false]
   obtain ⟨hg, gp, h1, h2, h3⟩ := push_facts hK hK2 hb hw hs hl hc (by omega)
   refine ob _ (pushed_iter (by omega) n K hg (by omega) (by omega) (by omega)) ?_
   exact ob _ (checkedF_eq (by omega) (by omega) gp.few gp.words h1 (fun h => h2 (by omega))) rfl
  ·rw [bne_t hc, pushA_chk h04 hc]; rfl
theorem push_equal : r08_Equal K (pushA n).1 (pushA n).1 = some true := by
 have hz : r08_Equal K zN zN = some true := zN_equal (by omega)
 by_cases h04 : sortS n.op = 0 ∨ sortS n.op = 4
 ·rw [pushA_bad h04]; exact hz
 by_cases hc : checkS n (sortS n.op) = 0
 ·rw [pushA_ok h04 hc]
  by_cases hd : checkS (pushS n) (sortS n.op) = 0
  ·rw [endA_ok hd]
   obtain ⟨hg, gp, h1, h2, h3⟩ := push_facts hK hK2 hb hw hs hl hc (by omega)
   have := check_size hd
   exact equal_refl (n := pushS n) (by omega) gp.few (by omega) (by unfold big; omega)
  ·rw [endA_bad hd]; exact hz
 ·rw [pushA_chk h04 hc]; exact hz
end
theorem DiffPush_law {n : NodeA} (hb : n.size ≤ big) (hw : n.words) : ∃ K, law13_DiffPush K n = some true := by
 refine ⟨100000 + 4 * roomS n + 4 * n.size, ?_⟩
 generalize hk : 100000 + 4 * roomS n + 4 * n.size = K
 unfold law13_DiffPush
 refine ob true rfl ?_
 simp only [Bool.not_true, Bool.false_eq_true, if_false]
 refine ob _ (small_eq (by omega) hb) ?_
 by_cases hsm : (n.lev : Int) ≤ 20 ∧ (n.size : Int) ≤ 60
 ·rw [decide_eq_true hsm.1, decide_eq_true hsm.2]
  simp only [Bool.and_self, Bool.not_true, Bool.false_eq_true, if_false]
  refine ob _ (Push_eq (by omega) (by omega) hb hw (by omega) (by omega)) (ob _ (rPush_eq (by omega) (by omega) hb hw (by omega) (by omega)) ?_)
  rw [beq_self_eq_true, if_pos rfl]
  exact ob true (push_equal (by omega) (by omega) hb hw (by omega) (by omega)) rfl
 ·have e : (decide ((n.lev : Int) ≤ 20) && decide ((n.size : Int) ≤ 60)) = false := by
   rw [Bool.eq_false_iff]; intro h; exact hsm (by simpa using h)
  rw [e]; rfl
end Go.Proofs.YtphmckfokdkecaaGreat
