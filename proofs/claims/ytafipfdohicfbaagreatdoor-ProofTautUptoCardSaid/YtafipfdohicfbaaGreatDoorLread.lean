/- Part of the proof of a law: contracts of the functions that the law reaches, or plain laws of them, out of the abstract layer (the texts YtafipfdohicfbaaGreatDoorIso..). No condition. -/
import Derived.Test.YtafipfdohicfbaaGreatDoorIsoF
import Derived.Test.YtafipfdohicfbaaGreatDoorRows
import Derived.Test.YtafipfdohicfbaaGreatDoorW
import Derived.Lib.SmallJoins
import Derived.Deep.Strs
import Derived.Test.YtafipfdohicfbaaGreatDoorPa
import Derived.KernelRfl
namespace Go.Proofs.YtafipfdohicfbaaGreatDoor
open Go Go.Iso Go.Proofs Go.RowKit Go.ChangeShapes Go.WideShapes Go.ChangeAt
set_option linter.unusedVariables false
set_option linter.unusedSimpArgs false
set_option maxRecDepth 100000
/-! ### Trees as they are read -/
theorem u32_wf {z : Int} (h : (Lit.int .u32 z).wf = true) : 0 ≤ z ∧ z < 4294967296 := by
 simp [Lit.wf, IntKind.min, IntKind.max, IntKind.signed, IntKind.bits] at h; omega
theorem words_rep {H : Type} {enc : TypeId × Value → H} {W : World} {fuel : Nat} {cs : List Value} {x : DataW H × List MemPlace} (h : DataW.trod enc Tryz.prog W 0 (fun _ => true) true fuel 22 cs = some x) :
  ∃ (l : List Int) (c : Value), cs = [c] ∧ RepD (there W) W (slD u32V l) c ∧ ∀ z ∈ l, 0 ≤ z ∧ z < 4294967296 := by
 obtain ⟨l, c, h1, h2, h3⟩ := slice_rep u32V (s := 1) Tryz.underlying22 (by kernel_rfl) (by omega) (fun _ => rfl) (fun z _ => 0 ≤ z ∧ z < 4294967296) (fun n cs' y _ hy => by
  obtain ⟨z, h1, h2⟩ := int_cell Tryz.underlying123 hy
  exact ⟨z, h1, u32_wf h2⟩) h
 refine ⟨l, c, h1, h2, fun z hz => ?_⟩
 rcases h3 with ⟨_, rfl⟩ | ⟨ys, rest, _, hl, hq⟩
 ·cases hz
 ·obtain ⟨i, hi, rfl⟩ := List.mem_iff_getElem.1 hz
  exact hq i hi (by omega)
theorem rat_rep {H : Type} {enc : TypeId × Value → H} {W : World} {fuel : Nat} {cs : List Value} {x : DataW H × List MemPlace} (h : DataW.trod enc Tryz.prog W 0 (fun _ => true) true fuel 24 cs = some x) :
  ∃ r : RatA, RowRep W r.enc cs ∧ r.words := by
 obtain ⟨y0, y1, y2, n, rfl, hl, h0, h1, h2⟩ := Go.Deep.trod_struct3 Tryz.underlying24 h
 have hc : Tryz.prog.cellsOf 24 = 3 := by kernel_rfl
 have hc4 : Tryz.prog.cellsOf 4 = 1 := by kernel_rfl
 have hc36 : Tryz.prog.cellsOf 22 = 1 := by kernel_rfl
 rw [hc] at hl
 match cs, hl with
 | [u, v, w], _ =>
  simp only [hc4, hc36, List.drop_zero, List.take_succ_cons, List.take_zero, List.drop_succ_cons] at h0 h1 h2
  obtain ⟨b, e0, _⟩ := DataW.trod_bool Tryz.underlying4 h0
  obtain ⟨l1, c1, e1, r1, w1⟩ := words_rep h1
  obtain ⟨l2, c2, e2, r2, w2⟩ := words_rep h2
  cases e0; cases e1; cases e2
  refine ⟨⟨b, l1, l2⟩, ⟨rfl, fun j hj => ?_⟩, w1, w2⟩
  match j, hj with
  | 0, _ => exact .val _ rfl
  | 1, _ => exact r1
  | 2, _ => exact r2
theorem bulk_slice {H : Type} {ys rest : List (DataW H)} : Rows.uptoBulk (.slice ys rest) = Rows.uptoBulkAll ys + Rows.uptoBulkAll rest + 1 := by rw [Rows.uptoBulk]
theorem bulk_ge {H : Type} : ∀ {l : List NodeA} {ys : List (DataW H)}, l.length = ys.length → (∀ i (h1 : i < l.length) (h2 : i < ys.length), l[i].size ≤ Rows.uptoBulk ys[i]) → (l.map NodeA.size).sum ≤ Rows.uptoBulkAll ys
 | [], _, _, _ => by simp
 | x :: l, [], h, _ => by simp at h
 | x :: l, y :: ys, h, hq => by
  have h0 := hq 0 (by simp) (by simp)
  have := bulk_ge (l := l) (ys := ys) (by simpa using h) fun i h1 h2 => by
   have := hq (i + 1) (by simpa using h1) (by simpa using h2); simpa using this
  rw [Rows.uptoBulkAll, List.map_cons, List.sum_cons]
  simp at h0; omega
theorem node_row {H : Type} {enc : TypeId × Value → H} {W : World} : ∀ (fuel : Nat) (cs : List Value) (x : DataW H × List MemPlace), DataW.trod enc Tryz.prog W 0 (fun _ => true) true fuel 27 cs = some x →
  ∃ n : NodeA, RowRep W n.enc cs ∧ n.words ∧ n.size ≤ Rows.uptoBulk x.1 := by
 intro fuel
 induction fuel using Nat.strongRecOn with
 | _ fuel ih =>
  intro cs x h
  obtain ⟨xs, n, hfu, rfl, hl, hlen, hfs⟩ := DataW.trod_struct Tryz.underlying27 h
  have hc : Tryz.prog.cellsOf 27 = 6 := by kernel_rfl
  have hc1 : Tryz.prog.cellsOf 3 = 1 := by kernel_rfl
  have hc2 : Tryz.prog.cellsOf 9 = 1 := by kernel_rfl
  have hc3 : Tryz.prog.cellsOf 24 = 3 := by kernel_rfl
  have hc4 : Tryz.prog.cellsOf 25 = 1 := by kernel_rfl
  rw [hc] at hl
  match xs, hlen with
  | [y0, y1, y2, y3], _ =>
  match cs, hl with
  | [u0, u1, u2, u3, u4, u5], _ =>
   have h0 := hfs 0 _ rfl
   have h1 := hfs 1 _ rfl
   have h2 := hfs 2 _ rfl
   have h3 := hfs 3 _ rfl
   simp only [hc1, hc2, hc3, hc4, List.drop_zero, List.take_succ_cons, List.take_zero, List.drop_succ_cons, List.getElem?_cons_zero, List.getElem?_cons_succ] at h0 h1 h2 h3
   obtain ⟨z, e0, _, _⟩ := DataW.trod_int Tryz.underlying3 h0
   obtain ⟨s, e1, _, hs⟩ := DataW.trod_string Tryz.underlying9 h1
   obtain ⟨r, r2, w2⟩ := rat_rep h2
   obtain ⟨l, c, e3, r3, q3⟩ := slice_rep NodeA.enc (s := 6) Tryz.underlying25 (by kernel_rfl) (by omega) NodeA.enc_len (fun k y => k.words ∧ k.size ≤ Rows.uptoBulk y) (fun m cs' y hm hy => ih m (by omega) cs' y hy) h3
   cases e0; cases e1; cases e3
   refine ⟨.mk z s r l, ⟨by rw [NodeA.enc_mk]; rfl, fun j hj => ?_⟩, ?_, ?_⟩
   ·have hr := r2.2
    have e : (NodeA.mk z s r l).enc = [.val (.int .i64 z), .val (.string s), .val (.bool r.neg), slD u32V r.num, slD u32V r.den, slD NodeA.enc l] := NodeA.enc_mk
    have hj6 : j < 6 := by rw [e] at hj; exact hj
    have key : ∀ (ds : List D), ds = (NodeA.mk z s r l).enc → ∀ hj : j < ds.length, RepD (there W) W ds[j] ([Value.int .i64 z, .string s, u2, u3, u4, u5].getD j undef) := by
     intro ds hd hj
     rw [e] at hd; subst hd
     match j, hj6 with
     | 0, _ => exact .val _ rfl
     | 1, _ => exact .val _ (by rw [maxLen_eq] at hs; simpa [okVal] using hs)
     | 2, _ => exact hr 0 (by simp [RatA.enc])
     | 3, _ => exact hr 1 (by simp [RatA.enc])
     | 4, _ => exact hr 2 (by simp [RatA.enc])
     | 5, _ => exact r3
    exact key _ rfl hj
   ·rw [NodeA.words_mk]
    refine ⟨w2, fun k hk => ?_⟩
    rcases q3 with ⟨_, rfl⟩ | ⟨ys, rest, _, hl3, hq⟩
    ·cases hk
    ·obtain ⟨i, hi, rfl⟩ := List.mem_iff_getElem.1 hk
     exact (hq i hi (by omega)).1
   ·rw [NodeA.size_mk]
    simp only [List.map_cons, List.map_nil]
    rw [Rows.uptoBulk]
    simp only [Rows.uptoBulkAll]
    rcases q3 with ⟨_, rfl⟩ | ⟨ys, rest, e4, hl3, hq⟩
    ·simp
    ·have := bulk_ge hl3 fun i h1 h2 => (hq i h1 h2).2
     rw [e4, bulk_slice]; omega
theorem node_rep {H : Type} {enc : TypeId × Value → H} {W : World} {base : Nat} {v : Value} {d : DataW H} {ps : List MemPlace} (hval : Value.okWide Tryz.prog W .any base 27 v) (h : DataW.Trod enc Tryz.prog W 0 (fun _ => true) true 27 v d ps) :
  ∃ n : NodeA, RepV (fun _ => none) (there W) W (aggV n.enc) v ∧ n.words ∧ n.size ≤ Rows.uptoBulk d := by
 obtain ⟨cs, rfl, hs⟩ := okWide_struct Tryz.underlying27 hval
 obtain ⟨fuel, hf⟩ := h
 obtain ⟨n, h1, h2, h3⟩ := node_row fuel _ _ hf
 obtain ⟨cs⟩ := cs
 refine ⟨n, .agg (by have := h1.1; simp only [Value.cells] at this; simp [this]) fun i hi => ?_, h2, h3⟩
 have := h1.2 i (by simpa using hi)
 simp only [Value.cells] at this
 rw [List.getElem_map]
 refine .d ?_
 simpa [Array.getD_eq_getD_getElem?, List.getD_eq_getElem?_getD] using this
end Go.Proofs.YtafipfdohicfbaaGreatDoor
namespace Go.Proofs.YtafipfdohicfbaaGreatDoor
open Go Go.Iso Go.Proofs
set_option linter.unusedSimpArgs false
set_option linter.unusedVariables false
set_option maxRecDepth 100000
/-! ### Operators -/
def sortS (p0 : Int) : Int :=
 if (decide (1 ≤ p0) && decide (p0 ≤ 13)) then 1 else if (decide (20 ≤ p0) && decide (p0 ≤ 39)) then 2 else if (p0 == 55 || p0 == 56) then 4 else if (decide (50 ≤ p0) && decide (p0 ≤ 62)) then 3 else 0
theorem tree_Sort_eq {K : Nat} {op : Int} : tree_Sort K op = some (sortS op) := by
 unfold tree_Sort sortS; simp only [andO, orO, Option.bind_some, ifOI]
theorem r08_Sort_eq {K : Nat} {op : Int} : r08_Sort K op = some (sortS op) := by
 unfold r08_Sort sortS; simp only [andO, orO, Option.bind_some, ifOI]
theorem sort_range {op : Int} (h : sortS op ≠ 0) : ∃ k : Nat, k < 63 ∧ op = k := by
 refine ⟨op.toNat, ?_, ?_⟩ <;>
 ·have : 1 ≤ op ∧ op ≤ 62 := by
   apply Classical.byContradiction
   intro hc
   apply h
   unfold sortS
   have e1 : (decide (1 ≤ op) && decide (op ≤ 13)) = false := by simp; omega
   have e2 : (decide (20 ≤ op) && decide (op ≤ 39)) = false := by simp; omega
   have e3 : (op == 55 || op == 56) = false := by simp; omega
   have e4 : (decide (50 ≤ op) && decide (op ≤ 62)) = false := by simp; omega
   rw [e1, e2, e3, e4]; rfl
  omega
def namedS (op : Int) : Bool := (tree_shape 0 op).all (·.1)
def sortsS (op : Int) : Option (List Int) := (tree_shape 0 op).bind (·.2)
theorem tree_shape_eq {K : Nat} {op : Int} : tree_shape K op = some (namedS op, sortsS op) := by
 have e : ∃ r, tree_shape 0 op = some r := by
  unfold tree_shape; simp only [andO, orO, orO', Option.bind_some, ifOP, ifOO, outM_eq, finIf, finIf', Out.fin_go, Out.fin_out]
  repeat' (first | exact ⟨_, rfl⟩ | split)
 obtain ⟨r, h⟩ := e
 have e2 : tree_shape K op = tree_shape 0 op := rfl
 unfold namedS sortsS
 rw [e2, h]; rfl
def namB (op : Int) : Bool := (r08_named 0 op).all id
def kidB (op : Int) : ByteArray := (r08_kids 0 op).getD ⟨#[]⟩
theorem r08_named_eq {K : Nat} {op : Int} : r08_named K op = some (namB op) := by
 have e : ∃ r, r08_named 0 op = some r := by
  unfold r08_named; simp only [andO, orO, orO', Option.bind_some]
  repeat' (first | exact ⟨_, rfl⟩ | split)
 obtain ⟨r, h⟩ := e
 have e2 : r08_named K op = r08_named 0 op := rfl
 unfold namB
 rw [e2, h]; rfl
theorem r08_kids_eq {K : Nat} {op : Int} : r08_kids K op = some (kidB op) := by
 have e : ∃ r, r08_kids 0 op = some r := by
  unfold r08_kids; simp only [andO, orO, orO', Option.bind_some, ifOS]
  repeat' (first | exact ⟨_, rfl⟩ | split)
 obtain ⟨r, h⟩ := e
 have e2 : r08_kids K op = r08_kids 0 op := rfl
 unfold kidB
 rw [e2, h]; rfl
def tabB (k : Int) : Bool := sortS k == 0 || (namB k == (namedS k || (k == 10 || k == 37)) && ((kidB k).toList.map (fun c => (c.toNat : Int) - 48) == (sortsS k).getD []) && ((kidB k).toList.all fun c => decide (48 ≤ c.toNat) && decide (c.toNat ≤ 57)) &&
 (!(k == 10 || k == 37 || k == 54) || sortsS k == none && !namedS k) && (!(k == 39) || sortsS k == some [2]) && (!(k == 8 || k == 9) || sortsS k == some [1, 1]) && (!(k == 12) || sortsS k == some [1]) && ((sortsS k).getD []).all (fun s => s != 0))
theorem tab_all : ((List.range 63).all fun k => tabB (k : Int)) = true := by decide +kernel
theorem tab {op : Int} (h : sortS op ≠ 0) : namB op = (namedS op || (op == 10 || op == 37)) ∧ (kidB op).toList.map (fun c => (c.toNat : Int) - 48) = (sortsS op).getD [] ∧ (∀ c ∈ (kidB op).toList, 48 ≤ c.toNat ∧ c.toNat ≤ 57) ∧
  ((op == 10 || op == 37 || op == 54) = true → sortsS op = none ∧ namedS op = false) ∧ (op = 39 → sortsS op = some [2]) ∧ ((op == 8 || op == 9) = true → sortsS op = some [1, 1]) ∧ (op = 12 → sortsS op = some [1]) ∧ (∀ s ∈ (sortsS op).getD [], s ≠ 0) := by
 obtain ⟨k, hk, rfl⟩ := sort_range h
 have := List.all_eq_true.1 tab_all k (List.mem_range.2 hk)
 generalize (k : Int) = op at *
 unfold tabB at this
 have h0 : (sortS op == 0) = false := beq_eq_false_iff_ne.2 h
 rw [h0, Bool.false_or] at this
 simp only [Bool.and_eq_true] at this
 obtain ⟨⟨⟨⟨⟨⟨⟨h1, h2⟩, h3⟩, h4⟩, h5⟩, h6⟩, h7⟩, h8⟩ := this
 refine ⟨eq_of_beq h1, eq_of_beq h2, fun c hc => ?_, fun ho => ?_, fun ho => ?_, fun ho => ?_, fun ho => ?_, fun s hs => ?_⟩
 ·have := List.all_eq_true.1 h3 c hc
  simpa using this
 ·rw [ho] at h4
  simp only [Bool.not_true, Bool.false_or, Bool.and_eq_true, Bool.not_eq_true'] at h4
  exact ⟨eq_of_beq h4.1, h4.2⟩
 ·have : (op == 39) = true := by simp [ho]
  rw [this] at h5; simpa using h5
 ·rw [ho] at h6; simpa using h6
 ·have : (op == 12) = true := by simp [ho]
  rw [this] at h7; simpa using h7
 ·have := List.all_eq_true.1 h8 s hs
  simpa using this
/-! ### Names -/
def letB (z : Int) : Bool := decide (97 ≤ z) && decide (z ≤ 122) || decide (65 ≤ z) && decide (z ≤ 90)
theorem tree_letter_eq {K : Nat} {z : Int} : tree_letter K z = some (letB z) := by
 unfold tree_letter letB
 cases decide (97 ≤ z) <;> cases decide (z ≤ 122) <;> cases decide (65 ≤ z) <;> rfl
theorem r08_letter_eq {K : Nat} {z : Int} : r08_letter K z = some (letB z) := by
 unfold r08_letter letB
 cases decide (97 ≤ z) <;> cases decide (z ≤ 122) <;> cases decide (65 ≤ z) <;> rfl
def digB (z : Int) : Bool := !(decide (z < 48) || decide (57 < z))
abbrev kw (s : ByteArray) : Bool := (s.toList == (⟨#[116, 114, 117, 101]⟩ : ByteArray).toList || (s.toList == (⟨#[102, 97, 108, 115, 101]⟩ : ByteArray).toList || (s.toList == (⟨#[102, 111, 114, 97, 108, 108]⟩ : ByteArray).toList || s.toList == (⟨#[101, 120, 105, 115, 116, 115]⟩ : ByteArray).toList)))
def nameB (s : ByteArray) : Bool :=
 !(((s.size : Int) == 0) || (decide (12 < (s.size : Int)) || kw s)) && (List.range s.size).all fun i => (s[i]?).all fun c => letB c.toNat || !((i : Int) == 0) && digB c.toNat
theorem strAt_get {s : ByteArray} {i : Nat} (h : i < s.size) : strAt s (i : Int) = some s[i] ∧ s[i]? = some s[i] := by
 rw [strAt_nat]; exact ⟨getElem?_pos s i h, getElem?_pos s i h⟩
theorem r08_Name_eq {K : Nat} {s : ByteArray} (hK : 12 < K) : r08_Name K s = some (nameB s) := by
 unfold r08_Name
 simp only [orO, Option.bind_some, outM_eq, finIf, ifOO]
 unfold nameB
 cases hb : (((s.size : Int) == 0) || (decide (12 < (s.size : Int)) || kw s)) with
 | true => simp only [if_true, Bool.not_true, Bool.false_and]
 | false =>
  have hs : s.size ≤ 12 := by
   have : decide (12 < (s.size : Int)) = false := by revert hb; cases decide (12 < (s.size : Int)) <;> cases ((s.size : Int) == 0) <;> simp
   simp at this; omega
  simp only [Bool.false_eq_true, if_false, Bool.not_false, Bool.true_and]
  refine ob _ (scanG s.size (fun i => (i : Int)) (fun i => (s[i]?).all fun c => letB c.toNat || !((i : Int) == 0) && digB c.toNat) false () (fun g i hi => ?_) (fun g => ?_) (by omega) rfl) ?_
  ·obtain ⟨h1, h2⟩ := strAt_get hi
   have hd : decide ((i : Int) < (s.size : Int)) = true := by simp; omega
   simp only [hd, if_true, h1, h2, Option.bind_some, r08_letter_eq, Option.all_some]
   simp only [orO, orO', andO, Option.bind_some, outM_eq]
   rw [w64s (by omega)]
   unfold digB
   cases letB (s[i].toNat : Int) <;> cases ((i : Int) == 0) <;> cases decide ((s[i].toNat : Int) < 48) <;> cases decide (57 < (s[i].toNat : Int)) <;> rfl
  ·have hd : decide ((s.size : Int) < (s.size : Int)) = false := by simp
   simp only [hd, Bool.false_eq_true, if_false]
  ·cases (List.range s.size).all fun i => (s[i]?).all fun c => letB c.toNat || !((i : Int) == 0) && digB c.toNat <;> rfl
theorem tree_Name_eq {K : Nat} {s : ByteArray} (hK : 12 < K) : tree_Name K s = some (nameB s) := by
 unfold tree_Name
 have hkw : ∀ {x y : Option Bool}, (if (s.toList == (⟨#[116, 114, 117, 101]⟩ : ByteArray).toList) = true then x else y) = (if (s.toList == (⟨#[116, 114, 117, 101]⟩ : ByteArray).toList) = true then x else y) := rfl
 simp only [tree_letter_eq, Option.bind_some, orO']
 unfold nameB
 by_cases h0 : s.size = 0
 ·have e : ((s.size : Int) == 0) = true := by simp [h0]
  simp only [e, if_true, Option.bind_some, outM_eq, Out.fin_out, Bool.true_or, Bool.not_true, Bool.false_and]
 have e0 : ((s.size : Int) == 0) = false := int_ne0 h0
 by_cases h1 : 12 < s.size
 ·have e : decide (12 < (s.size : Int)) = true := by simp; omega
  simp only [e0, e, if_true, Bool.false_eq_true, if_false, Option.bind_some, outM_eq, Out.fin_out, Bool.true_or, Bool.or_true, Bool.not_true, Bool.false_and]
 have e1 : decide (12 < (s.size : Int)) = false := by simp; omega
 obtain ⟨g1, g2⟩ := strAt_get (s := s) (i := 0) (by omega)
 have g1' : strAt s 0 = some s[0] := g1
 simp only [e0, e1, Bool.false_eq_true, if_false, g1', Option.bind_some, Bool.false_or]
 cases hl : letB (s[0].toNat : Int) with
 | false =>
  simp only [Bool.not_false, if_true, outM_eq, Option.bind_some, Out.fin_out]
  have : ((List.range s.size).all fun i => (s[i]?).all fun c => letB c.toNat || !((i : Int) == 0) && digB c.toNat) = false := by
   rw [List.all_eq_false]
   refine ⟨0, List.mem_range.2 (by omega), ?_⟩
   rw [g2, Option.all_some, hl]; simp
  rw [this, Bool.and_false]
 | true =>
  simp only [Bool.not_true, Bool.false_eq_true, if_false, Option.bind_some, Out.fin_go]
  refine ob _ (scanG s.size (fun i => (i : Int)) (fun i => (s[i]?).all fun c => letB c.toNat || digB c.toNat) false () (fun g i hi => ?_) (fun g => ?_) (by omega) rfl) ?_
  ·obtain ⟨h1, h2⟩ := strAt_get hi
   have hd : decide ((i : Int) < (s.size : Int)) = true := by simp; omega
   simp only [hd, if_true, h1, h2, Option.bind_some, Option.all_some]
   rw [w64s (by omega)]
   unfold digB
   cases letB (s[i].toNat : Int) <;> cases decide ((s[i].toNat : Int) < 48) <;> cases decide (57 < (s[i].toNat : Int)) <;> rfl
  ·have hd : decide ((s.size : Int) < (s.size : Int)) = false := by simp
   simp only [hd, Bool.false_eq_true, if_false]
  ·have e2 : ((List.range s.size).all fun i => (s[i]?).all fun c => letB c.toNat || digB c.toNat) = (List.range s.size).all fun i => (s[i]?).all fun c => letB c.toNat || !((i : Int) == 0) && digB c.toNat := by
    rw [Bool.eq_iff_iff, List.all_eq_true, List.all_eq_true]
    refine forall_congr' fun i => forall_congr' fun hi => ?_
    obtain ⟨_, h2⟩ := strAt_get (List.mem_range.1 hi)
    rw [h2, Option.all_some, Option.all_some]
    by_cases hi0 : i = 0
    ·subst hi0; rw [hl]; simp
    ·have : ((i : Int) == 0) = false := by simp; omega
     rw [this]; simp
   rw [e2]
   cases (List.range s.size).all fun i => (s[i]?).all fun c => letB c.toNat || !((i : Int) == 0) && digB c.toNat with
   | false => simp [Out.fin]
   | true =>
    simp only [if_true, Out.fin_go, orO, Option.bind_some, Bool.and_true, e0, e1, Bool.false_or]
    unfold kw
    generalize (s.toList == _ || (s.toList == _ || (s.toList == _ || s.toList == _))) = q
    cases q <;> rfl
/-! ### Numbers -/
def natS (r : RatA) : Bool := !r.neg && r.den == [1] && decide (r.num.length ≤ 20) && (r.num.getLast?).all (· != 0)
theorem last_idx {l : List Int} (h : l.length ≠ 0) (hl : l.length ≤ 9223372036854775807) : idx l (IntKind.wrap .i64 ((l.length : Int) - 1)) = l.getLast? := by
 have e : IntKind.wrap .i64 ((l.length : Int) - 1) = ((l.length - 1 : Nat) : Int) := by rw [w64 (by omega) (by omega)]; omega
 rw [e, idx_nat, List.getLast?_eq_getElem?]
theorem num_valid_eq {K : Nat} {l : List Int} {m : Int} (hm : m ≤ 10000) : num_valid K l m = some (decide ((l.length : Int) ≤ m) && (l.getLast?).all (· != 0)) := by
 unfold num_valid
 by_cases h : (l.length : Int) ≤ m
 ·rw [decide_eq_true h, if_pos rfl]
  by_cases h0 : l.length = 0
  ·have : l = [] := List.eq_nil_of_length_eq_zero h0
   subst this; rfl
  ·have e : ((l.length : Int) == 0) = false := int_ne0 h0
   rw [e, last_idx h0 (by omega)]
   cases hx : l.getLast? with
   | none => simp at hx; subst hx; simp at h0
   | some x => simp
 ·rw [decide_eq_false h]; simp
theorem num_Valid_eq {K : Nat} {r : RatA} (hd : r.den = [1]) (hn : r.neg = false) : num_Valid K r 4096 = some (decide ((r.num.length : Int) ≤ 4096) && (r.num.getLast?).all (· != 0)) := by
 unfold num_Valid
 have i0 : idx ([1] : List Int) 0 = some 1 := rfl
 simp only [num_valid_eq (show (4096 : Int) ≤ 10000 by omega), hd, hn, i0, Option.bind_some]
 generalize (decide ((r.num.length : Int) ≤ 4096) && (r.num.getLast?).all (· != 0)) = b
 cases b with
 | false => simp [outM, Out.fin]
 | true => cases hq : ((r.num.length : Int) == 0) <;> simp [outM, Out.fin]
theorem tree_natural_eq {K : Nat} {r : RatA} : tree_natural K r = some (natS r) := by
 unfold tree_natural natS
 cases hn : r.neg with
 | true => simp
 | false =>
  simp only [Bool.not_false, if_true, Bool.true_and]
  by_cases hd : r.den.length = 1
  ·obtain ⟨d, hd⟩ := List.length_eq_one_iff.1 hd
   have i0 : idx ([d] : List Int) 0 = some d := rfl
   simp only [hd, i0, Option.bind_some, List.length_singleton]
   by_cases h1 : d = 1
   ·subst h1
    have e : rat_Valid K r = some (decide ((r.num.length : Int) ≤ 4096) && (r.num.getLast?).all (· != 0)) := by
     unfold rat_Valid; rw [num_Valid_eq hd hn]; rfl
    by_cases h2 : r.num.length ≤ 20
    ·have e2 : decide ((r.num.length : Int) ≤ 20) = true := by simp; omega
     have e3 : decide ((r.num.length : Int) ≤ 4096) = true := by simp; omega
     simp [e, e2, e3, h2]
    ·have e2 : decide ((r.num.length : Int) ≤ 20) = false := by simp; omega
     simp [e2, h2]
   ·simp [h1]
  ·have e : ((r.den.length : Int) == 1) = false := by simp; omega
   have : (r.den == [1]) = false := by
    rw [beq_eq_false_iff_ne]; rintro h; rw [h] at hd; exact hd rfl
   rw [e, this]; simp
theorem r08_natural_eq {K : Nat} {r : RatA} : r08_natural K r = some (natS r) := by
 unfold r08_natural natS
 cases hn : r.neg with
 | true => simp [outM, Out.fin]
 | false =>
  simp only [Bool.not_false, Bool.false_eq_true, if_false, Bool.true_and]
  by_cases hd : r.den.length = 1
  ·obtain ⟨d, hd⟩ := List.length_eq_one_iff.1 hd
   have i0 : idx ([d] : List Int) 0 = some d := rfl
   simp only [hd, i0, Option.bind_some, List.length_singleton]
   by_cases h1 : d = 1
   ·subst h1
    by_cases h2 : r.num.length ≤ 20
    ·have e2 : decide ((20 : Int) < (r.num.length : Int)) = false := by simp; omega
     by_cases h0 : r.num.length = 0
     ·have : r.num = [] := List.eq_nil_of_length_eq_zero h0
      simp [e2, this, Out.fin]
     ·have e : ((r.num.length : Int) == 0) = false := int_ne0 h0
      cases hx : r.num.getLast? with
      | none => simp at hx; rw [hx] at h0; simp at h0
      | some x => simp [e2, e, last_idx h0 (by omega), hx, Out.fin, h2]
    ·have e2 : decide ((20 : Int) < (r.num.length : Int)) = true := by simp; omega
     simp [e2, h2, outM, Out.fin]
   ·simp [h1, outM, Out.fin]
  ·have e : ((r.den.length : Int) != 1) = true := by simp; omega
   have : (r.den == [1]) = false := by
    rw [beq_eq_false_iff_ne]; rintro h; rw [h] at hd; exact hd rfl
   rw [e, this]; simp [outM, Out.fin]
/-! ### Well-formed trees -/
def diffS : NodeA → Bool
 | .mk op _ _ kids => (op == 20 || (op == 21 || (op == 22 || (op == 23 || (op == 24 || (op == 25 || (op == 26 || (op == 27 || (op == 37 || op == 38))))))))) || (op == 29 || op == 30) && kids.attach.all fun ⟨k, _⟩ => diffS k
termination_by n => SizeOf.sizeOf n
decreasing_by exact NodeA.size_kid (by assumption)
def primS : NodeA → Bool
 | .mk op _ _ kids => (op == 3 || (op == 12 || op == 39)) || kids.attach.any fun ⟨k, _⟩ => primS k
termination_by n => SizeOf.sizeOf n
decreasing_by exact NodeA.size_kid (by assumption)
theorem diffS_eq (n : NodeA) : diffS n = ((n.op == 20 || (n.op == 21 || (n.op == 22 || (n.op == 23 || (n.op == 24 || (n.op == 25 || (n.op == 26 || (n.op == 27 || (n.op == 37 || n.op == 38))))))))) || (n.op == 29 || n.op == 30) && n.kids.all diffS) := by
 cases n with | mk o m r ks => rw [diffS]; simp [NodeA.op, NodeA.kids]
theorem primS_eq (n : NodeA) : primS n = ((n.op == 3 || (n.op == 12 || n.op == 39)) || n.kids.any primS) := by
 cases n with | mk o m r ks => rw [primS]; simp [NodeA.op, NodeA.kids]
theorem scan_kids {R : Type} {n : NodeA} {K : Nat} (hK : n.size ≤ K) (hb : n.size ≤ 4611686018427387904) (p : NodeA → Bool) (r : R) {f : (Int → Option (Out Unit R)) → Int → Option (Out Unit R)}
  (h1 : ∀ g (i : Nat) (x : NodeA), x ∈ n.kids → n.kids[i]? = some x → f g (i : Int) = if p x then g (IntKind.wrap .i64 ((i : Int) + 1)) else some (.out r))
  (h2 : ∀ g, f g (n.kids.length : Int) = some (.go ())) : iter K f 0 = some (if n.kids.all p then .go () else .out r) := by
 have hl := n.kids_lt
 have := scanG n.kids.length (fun i => (i : Int)) (fun i => (n.kids[i]?).all p) r () (f := f) (fun g i hi => by
  have hx : n.kids[i]? = some n.kids[i] := List.getElem?_eq_getElem hi
  rw [h1 g i _ (List.getElem_mem hi) hx, hx, w64s (by omega)]; rfl) h2 (K := K) (by omega) rfl
 rw [range_all] at this
 exact this
theorem lt_t {l : List NodeA} {i : Nat} {x : NodeA} (h : l[i]? = some x) : decide ((i : Int) < (l.length : Int)) = true := by
 have := (List.getElem?_eq_some_iff.1 h).1; simp; omega
theorem lt_f {k : Nat} : decide ((k : Int) < (k : Int)) = false := by simp
theorem tree_diff_eq {K : Nat} : ∀ (k : Nat) (n : NodeA), n.size ≤ k → n.size ≤ K → n.size ≤ 4611686018427387904 → iter k (fun self q => tree_differentiable_body K self q) n = some (diffS n) := by
 intro k
 induction k with
 | zero => intro n h; have := n.size_pos; omega
 | succ k ih =>
  intro n h hK hb
  rw [iter_succ, diffS_eq]
  generalize iter k (fun self q => tree_differentiable_body K self q) = S at ih ⊢
  unfold tree_differentiable_body
  simp only [orO', Option.bind_some]
  generalize (n.op == 20 || (n.op == 21 || (n.op == 22 || (n.op == 23 || (n.op == 24 || (n.op == 25 || (n.op == 26 || (n.op == 27 || (n.op == 37 || n.op == 38))))))))) = a
  generalize (n.op == 29 || n.op == 30) = b
  cases a with
  | true => rfl
  | false =>
   cases b with
   | false => rfl
   | true =>
    simp only [Bool.false_eq_true, if_false, if_true, Bool.false_or, Bool.true_and]
    refine ob _ (scan_kids hK hb diffS false (fun g i x hm hx => ?_) (fun g => ?_)) ?_
    ·have hs := NodeA.size_lt hm
     simp only [lt_t hx, if_true, idx_nat, hx, Option.bind_some, ih x (by omega) (by omega) (by omega), outM_eq]
     cases diffS x <;> rfl
    ·simp only [lt_f, Bool.false_eq_true, if_false]
    ·cases n.kids.all diffS <;> rfl
theorem tree_differentiable_eq {K : Nat} {n : NodeA} (hK : n.size ≤ K) (hb : n.size ≤ 4611686018427387904) : tree_differentiable K n = some (diffS n) := tree_diff_eq K n hK hK hb
theorem r08_diff_eq {K : Nat} : ∀ (k : Nat) (n : NodeA), n.size ≤ k → n.size ≤ K → n.size ≤ 4611686018427387904 → iter k (fun self q => r08_differential_body K self q) n = some (diffS n) := by
 intro k
 induction k with
 | zero => intro n h; have := n.size_pos; omega
 | succ k ih =>
  intro n h hK hb
  rw [iter_succ, diffS_eq]
  generalize iter k (fun self q => r08_differential_body K self q) = S at ih ⊢
  unfold r08_differential_body
  have e : (n.op == 20 || (n.op == 21 || (n.op == 22 || (n.op == 23 || (n.op == 24 || (n.op == 25 || (n.op == 26 || (n.op == 27 || (n.op == 37 || n.op == 38))))))))) = (n.op == 20 || (n.op == 21 || (decide (22 ≤ n.op) && decide (n.op ≤ 27) || (n.op == 37 || n.op == 38)))) := by
   rw [Bool.eq_iff_iff]; simp; omega
  rw [e]
  have e2 : ∀ {b c : Bool}, (if decide (22 ≤ n.op) = true then if decide (n.op ≤ 27) = true then some true else if b = true then some true else some c else if b = true then some true else some c) = some (decide (22 ≤ n.op) && decide (n.op ≤ 27) || (b || c)) := by
   intro b c; cases decide (22 ≤ n.op) <;> cases decide (n.op ≤ 27) <;> cases b <;> rfl
  simp only [e2]
  simp only [orO, Option.bind_some]
  generalize (n.op == 20 || (n.op == 21 || (decide (22 ≤ n.op) && decide (n.op ≤ 27) || (n.op == 37 || n.op == 38)))) = a
  generalize (n.op == 29 || n.op == 30) = b
  cases a with
  | true => rfl
  | false =>
   cases b with
   | false => rfl
   | true =>
    simp only [Bool.false_eq_true, if_false, if_true, Bool.false_or, Bool.true_and]
    refine ob _ (scan_kids hK hb diffS false (fun g i x hm hx => ?_) (fun g => ?_)) ?_
    ·have hs := NodeA.size_lt hm
     simp only [lt_t hx, if_true, idx_nat, hx, Option.bind_some, ih x (by omega) (by omega) (by omega), outM_eq]
     cases diffS x <;> rfl
    ·simp only [lt_f, Bool.false_eq_true, if_false]
    ·cases n.kids.all diffS <;> rfl
theorem r08_differential_eq {K : Nat} {n : NodeA} (hK : n.size ≤ K) (hb : n.size ≤ 4611686018427387904) : r08_differential K n = some (diffS n) := r08_diff_eq K n hK hK hb
theorem r08_prim_eq {K : Nat} : ∀ (k : Nat) (n : NodeA), n.size ≤ k → n.size ≤ K → n.size ≤ 4611686018427387904 → iter k (fun self q => r08_primed_body K self q) n = some (primS n) := by
 intro k
 induction k with
 | zero => intro n h; have := n.size_pos; omega
 | succ k ih =>
  intro n h hK hb
  rw [iter_succ, primS_eq]
  generalize iter k (fun self q => r08_primed_body K self q) = S at ih ⊢
  unfold r08_primed_body
  simp only [orO, Option.bind_some]
  generalize (n.op == 3 || (n.op == 12 || n.op == 39)) = a
  cases a with
  | true => rfl
  | false =>
   simp only [Bool.false_eq_true, if_false, Option.bind_some, Out.fin_go, Bool.false_or]
   refine ob _ (scan_kids hK hb (fun x => !primS x) true (fun g i x hm hx => ?_) (fun g => ?_)) ?_
   ·have hs := NodeA.size_lt hm
    simp only [lt_t hx, if_true, idx_nat, hx, Option.bind_some, ih x (by omega) (by omega) (by omega), outM_eq]
    cases primS x <;> rfl
   ·simp only [lt_f, Bool.false_eq_true, if_false]
   ·have : (n.kids.all fun x => !primS x) = !n.kids.any primS := by rw [List.not_any_eq_all_not]
    rw [this]
    cases n.kids.any primS <;> rfl
theorem r08_primed_eq {K : Nat} {n : NodeA} (hK : n.size ≤ K) (hb : n.size ≤ 4611686018427387904) : r08_primed K n = some (primS n) := r08_prim_eq K n hK hK hb
abbrev big : Nat := 1099511627776
/-! ### Size, Levels, within -/
theorem sum_take {α : Type} {l : List α} {f : α → Nat} {i : Nat} {x : α} (h : l[i]? = some x) : ((l.take (i + 1)).map f).sum = ((l.take i).map f).sum + f x := by
 rw [List.take_add_one, h]; simp
theorem sum_take_le {α : Type} {l : List α} {f : α → Nat} : ∀ {i : Nat}, ((l.take i).map f).sum ≤ (l.map f).sum := by
 induction l with
 | nil => intro i; simp
 | cons x l ih => intro i; cases i with
  | zero => simp
  | succ i => rw [List.take_succ_cons, List.map_cons, List.map_cons, List.sum_cons, List.sum_cons]; have := ih (i := i); omega
theorem Size_iter {K : Nat} : ∀ (k : Nat) (n : NodeA), n.size ≤ k → n.size ≤ K → n.size ≤ big → iter k (fun self q => r08_Size_body K self q) n = some (n.size : Int) := by
 intro k
 induction k with
 | zero => intro n h; have := n.size_pos; omega
 | succ k ih =>
  intro n h hK hb
  rw [iter_succ]
  generalize iter k (fun self q => r08_Size_body K self q) = S at ih ⊢
  unfold r08_Size_body
  have hl := n.kids_lt
  have hsz : n.size = 1 + (n.kids.map NodeA.size).sum := by cases n with | mk o m r ks => rw [NodeA.size_mk]; rfl
  have hb' : n.size ≤ 1099511627776 := hb
  refine ob _ (foldG n.kids.length (fun i => (((1 + ((n.kids.take i).map NodeA.size).sum : Nat) : Int), (i : Int))) (n.size : Int) (fun g i hi => ?_) (fun g => ?_) (by omega) rfl) rfl
  ·have hx : n.kids[i]? = some n.kids[i] := List.getElem?_eq_getElem hi
   have hm := List.getElem_mem hi
   have hs := NodeA.size_lt hm
   have h1 := sum_take (f := NodeA.size) hx
   have h2 := sum_take_le (l := n.kids) (f := NodeA.size) (i := i + 1)
   simp only [lt_t hx, if_true, idx_nat, hx, Option.bind_some, ih _ (show n.kids[i].size ≤ k by omega) (by omega) (by omega)]
   rw [w64s (by omega), w64 (by omega) (by omega), h1]
   congr 2
   omega
  ·simp only [lt_f, Bool.false_eq_true, if_false, List.take_length, hsz]
theorem r08_Size_eq {K : Nat} {n : NodeA} (hK : n.size ≤ K) (hb : n.size ≤ big) : r08_Size K n = some (n.size : Int) := Size_iter K n hK hK hb
theorem lev_eq (n : NodeA) : n.lev = 1 + (n.kids.map NodeA.lev).foldl max 0 := by cases n with | mk o m r ks => rw [NodeA.lev_mk]; rfl
theorem Levels_iter {K : Nat} : ∀ (k : Nat) (n : NodeA), n.size ≤ k → n.size ≤ K → n.size ≤ big → iter k (fun self q => r08_Levels_body K self q) n = some (n.lev : Int) := by
 intro k
 induction k with
 | zero => intro n h; have := n.size_pos; omega
 | succ k ih =>
  intro n h hK hb
  rw [iter_succ]
  generalize iter k (fun self q => r08_Levels_body K self q) = S at ih ⊢
  unfold r08_Levels_body
  have hl := n.kids_lt
  have hll := n.lev_le_size
  have hb' : n.size ≤ 1099511627776 := hb
  refine ob (((n.kids.map NodeA.lev).foldl max 0 : Nat) : Int) (foldG n.kids.length (fun i => (((((n.kids.take i).map NodeA.lev).foldl max 0 : Nat) : Int), (i : Int))) _ (fun g i hi => ?_) (fun g => ?_) (by omega) rfl) ?_
  ·have hx : n.kids[i]? = some n.kids[i] := List.getElem?_eq_getElem hi
   have hm := List.getElem_mem hi
   have hs := NodeA.size_lt hm
   simp only [lt_t hx, if_true, idx_nat, hx, Option.bind_some, ih _ (show n.kids[i].size ≤ k by omega) (by omega) (by omega)]
   rw [w64s (by omega), List.take_add_one, hx]
   congr 2
   simp only [Option.toList_some, List.map_append, List.map_cons, List.map_nil, List.foldl_append, List.foldl_cons, List.foldl_nil]
   split <;> omega
  ·simp only [lt_f, Bool.false_eq_true, if_false, List.take_length]
  ·rw [lev_eq] at hll ⊢
   rw [w64 (by omega) (by omega)]
   congr 1
   omega
theorem r08_Levels_eq {K : Nat} {n : NodeA} (hK : n.size ≤ K) (hb : n.size ≤ big) : r08_Levels K n = some (n.lev : Int) := Levels_iter K n hK hK hb
def Within (n : NodeA) (L v : Int) (r : Bool × Int) : Prop := if (n.size : Int) ≤ L ∧ (n.lev : Int) ≤ v then r = (true, L - n.size) else r.1 = false
theorem foldl_max_le {l : List Nat} {v : Nat} : l.foldl max 0 ≤ v ↔ ∀ x ∈ l, x ≤ v := by
 induction l with
 | nil => simp
 | cons y l ih => rw [List.foldl_cons, foldl_max]; simp only [List.mem_cons, forall_eq_or_imp]; rw [← ih]; omega
theorem within_iter {K : Nat} : ∀ (k : Nat) (n : NodeA) (L v : Int), n.size ≤ k → n.size ≤ K → n.size ≤ big → 0 ≤ L → L ≤ 1000000 → -1000000 ≤ v → v ≤ 1000000 → v - n.size ≥ -1152921504606846976 → ∃ r, iter k (fun self q => tree_within_body K self q.1 q.2.1 q.2.2) (n, L, v) = some r ∧ Within n L v r := by
 intro k
 induction k with
 | zero => intro n L v h; have := n.size_pos; omega
 | succ k ih =>
  intro n L v h hK hb hL hL' hv hv' hvs
  rw [iter_succ]
  generalize iter k (fun self q => tree_within_body K self q.1 q.2.1 q.2.2) = S at ih ⊢
  have hl := n.kids_lt
  have hp := n.size_pos
  have hlv := lev_eq n
  have hsz : n.size = 1 + (n.kids.map NodeA.size).sum := by cases n with | mk o m r ks => rw [NodeA.size_mk]; rfl
  have hb' : n.size ≤ 1099511627776 := hb
  have e1 : IntKind.wrap .i64 (L - 1) = L - 1 := w64 (by omega) (by omega)
  have e2 : IntKind.wrap .i64 (v - 1) = v - 1 := w64 (by omega) (by omega)
  unfold tree_within_body
  simp only [e1, e2]
  by_cases hc : L - 1 < 0 ∨ v ≤ 0
  ·refine ⟨(false, L - 1), ?_, ?_⟩
   ·have : (if decide (L - 1 < 0) = true then some true else some (decide (v ≤ 0))) = some true := by
     rcases hc with h | h
     ·rw [decide_eq_true h]; rfl
     ·rw [decide_eq_true h]; split <;> rfl
    rw [this]; rfl
   ·unfold Within
    rw [if_neg]
    rintro ⟨h1, h2⟩
    rcases hc with h | h <;> omega
  ·have : (if decide (L - 1 < 0) = true then some true else some (decide (v ≤ 0))) = some false := by
    have h1 : decide (L - 1 < 0) = false := by simp; omega
    have h2 : decide (v ≤ 0) = false := by simp; omega
    rw [h1, h2]; rfl
   rw [this]
   simp only [Option.bind_some, Bool.false_eq_true, if_false, Out.fin_go]
   have hlev : (∀ x ∈ n.kids, (x.lev : Int) ≤ v - 1) ↔ (n.lev : Int) ≤ v := by
    rw [hlv]
    constructor
    ·intro hq
     have : (n.kids.map NodeA.lev).foldl max 0 ≤ (v - 1).toNat := foldl_max_le.2 fun x hx => by
      obtain ⟨y, hy, rfl⟩ := List.mem_map.1 hx
      have := hq y hy; omega
     omega
    ·intro hq x hx
     have := foldl_max_le.1 (Nat.le_refl ((n.kids.map NodeA.lev).foldl max 0)) _ (List.mem_map_of_mem hx)
     omega
   refine ex_ob (Exists.imp (fun o ho => ⟨ho.1, ?_⟩) (loopE (fun i (s : Int × Int) => s.1 = i ∧ 0 ≤ s.2 ∧ s.2 ≤ 1000000)
    (fun i s o => if ((((n.kids.drop i).map NodeA.size).sum : Nat) : Int) ≤ s.2 ∧ (∀ x ∈ n.kids.drop i, (x.lev : Int) ≤ v - 1) then o = .go (s.2 - ((((n.kids.drop i).map NodeA.size).sum : Nat) : Int)) else ∃ z, o = .out (false, z))
    n.kids.length (fun g i s hi hj hg => ?_) (fun g s hj => ?_) 0 (0, L - 1) ⟨rfl, by simp only; omega, by simp only; omega⟩ (Nat.zero_le _) (by omega)))
   ·have h2 := ho.2
    rw [List.drop_zero] at h2
    simp only at h2
    by_cases hc3 : ((((n.kids).map NodeA.size).sum : Nat) : Int) ≤ L - 1 ∧ ∀ x ∈ n.kids, (x.lev : Int) ≤ v - 1
    ·rw [if_pos hc3] at h2
     subst h2
     refine ⟨(true, L - n.size), ?_, ?_⟩
     ·simp only [Out.fin_go, hsz]; congr 2; omega
     ·unfold Within; rw [if_pos ⟨by omega, hlev.1 hc3.2⟩]
    ·rw [if_neg hc3] at h2
     obtain ⟨z, rfl⟩ := h2
     refine ⟨(false, z), rfl, ?_⟩
     unfold Within; rw [if_neg fun hq => hc3 ⟨by omega, hlev.2 hq.2⟩]
   ·obtain ⟨s1, M⟩ := s
    obtain ⟨rfl, hM, hM'⟩ := hj
    simp only at hM hM'
    have hx : n.kids[i]? = some n.kids[i] := List.getElem?_eq_getElem hi
    have hm := List.getElem_mem hi
    have hs := NodeA.size_lt hm
    have hbk : n.kids[i].size ≤ big := by unfold big; omega
    obtain ⟨r, hr, hw⟩ := ih n.kids[i] M (v - 1) (by omega) (by omega) hbk hM hM' (by omega) (by omega) (by omega)
    simp only [lt_t hx, if_true, idx_nat, hx, Option.bind_some, hr]
    have hdrop := List.drop_eq_getElem_cons hi
    have hsum : ((n.kids.drop i).map NodeA.size).sum = n.kids[i].size + ((n.kids.drop (i + 1)).map NodeA.size).sum := by rw [hdrop, List.map_cons, List.sum_cons]
    have hall : (∀ x ∈ n.kids.drop i, (x.lev : Int) ≤ v - 1) ↔ (n.kids[i].lev : Int) ≤ v - 1 ∧ ∀ x ∈ n.kids.drop (i + 1), (x.lev : Int) ≤ v - 1 := by rw [hdrop]; exact List.forall_mem_cons
    unfold Within at hw
    by_cases hok : (n.kids[i].size : Int) ≤ M ∧ (n.kids[i].lev : Int) ≤ v - 1
    ·rw [if_pos hok] at hw
     subst hw
     simp only [Bool.not_true, Bool.false_eq_true, if_false]
     rw [w64s (by omega)]
     obtain ⟨o, h1, h2⟩ := hg (((i + 1 : Nat) : Int), M - n.kids[i].size) ⟨rfl, by simp only; omega, by simp only; omega⟩
     simp only at h2
     refine ⟨o, h1, ?_⟩
     by_cases hc2 : ((((n.kids.drop (i + 1)).map NodeA.size).sum : Nat) : Int) ≤ M - n.kids[i].size ∧ ∀ x ∈ n.kids.drop (i + 1), (x.lev : Int) ≤ v - 1
     ·rw [if_pos hc2] at h2
      rw [if_pos ⟨by rw [hsum]; omega, hall.2 ⟨hok.2, hc2.2⟩⟩, h2, hsum]
      congr 1
      omega
     ·rw [if_neg hc2] at h2
      rw [if_neg fun hq => hc2 ⟨by rw [hsum] at hq; omega, (hall.1 hq.2).2⟩]
      exact h2
    ·rw [if_neg hok] at hw
     rw [hw]
     refine ⟨.out (false, r.2), rfl, ?_⟩
     rw [if_neg fun hq => hok ⟨by rw [hsum] at hq; omega, (hall.1 hq.2).1⟩]
     exact ⟨_, rfl⟩
   ·obtain ⟨s1, M⟩ := s
    obtain ⟨rfl, hM, hM'⟩ := hj
    simp only at hM hM'
    refine ⟨.go M, by simp only [lt_f, Bool.false_eq_true, if_false], ?_⟩
    rw [List.drop_length, if_pos ⟨by simpa using hM, fun x hx => by cases hx⟩]; simp
theorem tree_within_eq {K : Nat} {n : NodeA} (hK : n.size ≤ K) (hb : n.size ≤ big) : ∃ r, tree_within K n 4000 60 = some r ∧ Within n 4000 60 r :=
 within_iter K n 4000 60 hK hK hb (by omega) (by omega) (by omega) (by omega) (by unfold big at hb; omega)
/-! ### formed and well -/
abbrev emptyB (s : ByteArray) : Bool := s.toList == (⟨#[]⟩ : ByteArray).toList
theorem emptyB_name {s : ByteArray} (h : emptyB s = true) : nameB s = false := by
 have : s = ⟨#[]⟩ := bytes_eq.1 h
 subst this; rfl
def numC (n : NodeA) : Bool := if n.op == 1 then natS n.num else !(n.num.neg || (decide (0 < (n.num.num.length : Int)) || decide (0 < (n.num.den.length : Int))))
def nameC (n : NodeA) : Bool := if namedS n.op || (n.op == 10 || n.op == 37) then nameB n.name else emptyB n.name
def flowK (kids : List NodeA) (i : Nat) : Bool := (kids[i]?).all fun x => !(x.op != 55 && (x.op != 56 || (i : Int) != ((kids.length - 2 : Nat) : Int))) && (kids.take i).all fun y => !(x.op == 55 && y.name.toList == x.name.toList)
def stC (n : NodeA) (d fd fl : Bool) : Bool :=
 if n.op == 10 || n.op == 37 then decide (n.kids.length ≤ 1)
 else if n.op == 54 then decide (2 ≤ n.kids.length) && (List.range (n.kids.length - 1)).all (flowK n.kids)
 else if n.op == 3 then !(d || (fd || fl))
 else if n.op == 12 then !(d || fl)
 else if n.op == 39 then !(fl || (((n.kids.length : Int) != 1) || !((n.kids[0]?).all diffS)))
 else true
def sortsC (n : NodeA) : List Int :=
 if n.op == 10 || n.op == 37 then List.replicate n.kids.length 1
 else if n.op == 54 then List.replicate (n.kids.length - 1) 4 ++ [2]
 else (sortsS n.op).getD []
def lastC (n : NodeA) : Bool :=
 if n.op == 8 then (n.kids[1]?).all fun x => x.op == 1 && decide (0 < (x.num.num.length : Int))
 else if n.op == 9 then (n.kids[1]?).all fun x => x.op == 1 && (((x.num.num.length : Int) == 0) || ((x.num.num.length : Int) == 1) && (x.num.num[0]?).all fun w => decide (w ≤ 20))
 else true
def okS : NodeA → Bool → Bool → Bool → Bool
 | .mk op name num kids, d, fd, fl =>
  numC (.mk op name num kids) && (nameC (.mk op name num kids) && (stC (.mk op name num kids) d fd fl && ((kids.map fun x => sortS x.op) == sortsC (.mk op name num kids) && ((kids.attach.all fun ⟨k, _⟩ => okS k (d || op == 12) (fd || op == 39) (fl || op == 54)) && lastC (.mk op name num kids)))))
termination_by n => SizeOf.sizeOf n
decreasing_by exact NodeA.size_kid (by assumption)
theorem okS_eq (n : NodeA) (d fd fl : Bool) : okS n d fd fl = (numC n && (nameC n && (stC n d fd fl && ((n.kids.map fun x => sortS x.op) == sortsC n && (n.kids.all (fun k => okS k (d || n.op == 12) (fd || n.op == 39) (fl || n.op == 54)) && lastC n))))) := by
 cases n with
 | mk o m r ks =>
  rw [okS]
  have : (ks.attach.all fun x => match x with | ⟨k, _⟩ => okS k (d || o == 12) (fd || o == 39) (fl || o == 54)) = ks.all (fun k => okS k (d || o == 12) (fd || o == 39) (fl || o == 54)) := by
   rw [Bool.eq_iff_iff]; simp [List.all_eq_true]
  rw [this]; rfl
theorem num_join {K : Nat} {n : NodeA} : (if (n.op == (1 : Int)) then (tree_natural K n.num).bind fun r4 => if (!r4) then outM (some false) else some (.go ()) else
   ((if n.num.neg then some true else if (decide ((0 : Int) < (n.num.num.length : Int))) then some true else some (decide ((0 : Int) < (n.num.den.length : Int)))) : Option Bool).bind (fun v7_0 => if v7_0 then outM (some false) else some (.go ())) : Option (Out Unit Bool)) = some (if numC n then .go () else .out false) := by
 unfold numC
 simp only [tree_natural_eq, Option.bind_some, orO, outM_eq]
 cases (n.op == 1) <;> cases natS n.num <;> cases (n.num.neg || (decide (0 < (n.num.num.length : Int)) || decide (0 < (n.num.den.length : Int)))) <;> rfl
theorem num_join' {K : Nat} {n : NodeA} : (if (n.op == (1 : Int)) then (r08_natural K n.num).bind fun r4 => if (!r4) then outM (some false) else some (.go ()) else
   ((if n.num.neg then some true else if (decide ((0 : Int) < (n.num.num.length : Int))) then some true else some (decide ((0 : Int) < (n.num.den.length : Int)))) : Option Bool).bind (fun v7_0 => if v7_0 then outM (some false) else some (.go ())) : Option (Out Unit Bool)) = some (if numC n then .go () else .out false) := by
 unfold numC
 simp only [r08_natural_eq, Option.bind_some, orO, outM_eq]
 cases (n.op == 1) <;> cases natS n.num <;> cases (n.num.neg || (decide (0 < (n.num.num.length : Int)) || decide (0 < (n.num.den.length : Int)))) <;> rfl
theorem app_one {i : Nat} {x : Int} (h : i ≤ big) : appO 8 (List.replicate i x) [x] = some (List.replicate (i + 1) x) := by
 unfold appO big at *
 rw [if_pos (by simp; omega), List.replicate_succ']
theorem map_eq {n : NodeA} {l : List Int} (hl : n.kids.length = l.length) (q : NodeA → Bool) :
  ((List.range n.kids.length).all fun i => (n.kids[i]?).all fun x => (l[i]?).all fun s => !(sortS x.op != s) && q x) = (((n.kids.map fun x => sortS x.op) == l) && n.kids.all q) := by
 rw [Bool.eq_iff_iff]
 simp only [List.all_eq_true, List.mem_range, Bool.and_eq_true, beq_iff_eq]
 constructor
 ·intro h
  have get : ∀ i (hi : i < n.kids.length), sortS n.kids[i].op = l[i]'(by omega) ∧ q n.kids[i] = true := fun i hi => by
   have := h i hi
   rw [List.getElem?_eq_getElem hi, List.getElem?_eq_getElem (show i < l.length by omega)] at this
   simpa using this
  refine ⟨List.ext_getElem (by simpa using hl) fun i h1 h2 => ?_, fun x hx => ?_⟩
  ·rw [List.getElem_map]; exact (get i (by simpa using h1)).1
  ·obtain ⟨i, hi, rfl⟩ := List.mem_iff_getElem.1 hx
   exact (get i hi).2
 ·rintro ⟨rfl, h⟩ i hi
  have hx : n.kids[i]? = some n.kids[i] := List.getElem?_eq_getElem hi
  simp [hx, h _ (List.getElem_mem hi)]
theorem formed_iter {K : Nat} (hK : 12 < K) : ∀ (k : Nat) (n : NodeA) (at' : Tree_placeA), n.size ≤ k → n.size ≤ K → n.size ≤ big → sortS n.op ≠ 0 →
  iter k (fun self q => tree_formed_body K self q.1 q.2) (n, at') = some (okS n at'.inDiff at'.inFDiff at'.inFlow) := by
 intro k
 induction k with
 | zero => intro n a h; have := n.size_pos; omega
 | succ k ih =>
  intro n a h hK2 hb hsort
  rw [iter_succ, okS_eq]
  generalize iter k (fun self q => tree_formed_body K self q.1 q.2) = S at ih ⊢
  obtain ⟨d, fd, fl⟩ := a
  have hl := n.kids_lt
  have htab := tab hsort
  have hbig : n.size ≤ 1099511627776 := hb
  unfold tree_formed_body
  refine ob _ num_join ?_
  cases hA : numC n with
  | false => rfl
  | true =>
  simp only [if_true, Out.fin_go, tree_shape_eq, Option.bind_some, tree_Name_eq hK, Bool.true_and]
  refine ob (if (namedS n.op && nameB n.name || !namedS n.op && (emptyB n.name || (n.op == 10 || n.op == 37))) then .go () else .out false) ?_ ?_
  ·have e10 : (n.op != 10) = !(n.op == 10) := rfl
   have e37 : (n.op != 37) = !(n.op == 37) := rfl
   rw [e10, e37]
   generalize (n.op == 10) = b10
   generalize (n.op == 37) = b37
   have : (n.name.toList == (⟨#[]⟩ : ByteArray).toList) = emptyB n.name := rfl
   rw [this]
   cases namedS n.op <;> cases nameB n.name <;> cases emptyB n.name <;> cases b10 <;> cases b37 <;> rfl
  cases hB : (namedS n.op && nameB n.name || !namedS n.op && (emptyB n.name || (n.op == 10 || n.op == 37))) with
  | false =>
   have : nameC n = false := by
    unfold nameC
    revert hB
    cases namedS n.op <;> cases nameB n.name <;> cases emptyB n.name <;> cases (n.op == 10 || n.op == 37) <;> simp
   rw [this]; rfl
  | true =>
  simp only [if_true, Out.fin_go]
  -- the places
  refine ob (if (!(n.op == 10 || n.op == 37) || nameB n.name) && stC n d fd fl then .go (sortsC n, (⟨d || n.op == 12, fd || n.op == 39, fl || n.op == 54⟩ : Tree_placeA)) else .out false) ?_ ?_
  ·by_cases h10 : (n.op == 10 || n.op == 37) = true
   ·obtain ⟨hs0, hn0⟩ := htab.2.2.2.1 (by rw [h10]; rfl)
    have o12 : (n.op == 12) = false := by rw [Bool.eq_false_iff]; intro hc; simp at hc h10; omega
    have o39 : (n.op == 39) = false := by rw [Bool.eq_false_iff]; intro hc; simp at hc h10; omega
    have o54 : (n.op == 54) = false := by rw [Bool.eq_false_iff]; intro hc; simp at hc h10; omega
    have e : stC n d fd fl = decide (n.kids.length ≤ 1) := by unfold stC; rw [if_pos h10]
    have e2 : sortsC n = List.replicate n.kids.length 1 := by unfold sortsC; rw [if_pos h10]
    rw [e, e2, o12, o39, o54, h10, Bool.not_true, Bool.false_or, Bool.or_false, Bool.or_false, Bool.or_false]
    simp only [orO', h10, Option.bind_some, if_true]
    cases hnm : nameB n.name with
    | false => rfl
    | true =>
     by_cases h1 : n.kids.length ≤ 1
     ·have hd : decide ((1 : Int) < (n.kids.length : Int)) = false := by simp; omega
      simp only [Bool.not_true, Bool.false_eq_true, if_false, hd, Option.bind_some, Out.fin_go, hs0, Option.isNone_none, must, if_true, Bool.true_and, decide_eq_true h1]
      refine ob _ (foldG n.kids.length (fun i => ((i : Int), List.replicate i (1 : Int))) (List.replicate n.kids.length 1) (fun g i hi => ?_) (fun g => ?_) (by omega) rfl) rfl
      ·have hx : n.kids[i]? = some n.kids[i] := List.getElem?_eq_getElem hi
       simp only [lt_t hx, if_true, app_one (show i ≤ big by unfold big; omega), Option.bind_some]
       rw [w64s (by omega)]
      ·simp only [lt_f, Bool.false_eq_true, if_false]
     ·have hd : decide ((1 : Int) < (n.kids.length : Int)) = true := by simp; omega
      have hd2 : decide (n.kids.length ≤ 1) = false := by simp; omega
      simp only [Bool.not_true, Bool.false_eq_true, if_false, hd, Option.bind_some, hd2, Bool.and_false]
      rfl
   ·have h10' : (n.op == 10 || n.op == 37) = false := by simpa using h10
    rw [h10', Bool.not_false, Bool.true_or, Bool.true_and]
    simp only [orO', h10', Option.bind_some, Bool.false_eq_true, if_false]
    by_cases h54 : (n.op == 54) = true
    ·obtain ⟨hs0, hn0⟩ := htab.2.2.2.1 (by rw [h54]; simp)
     have o12 : (n.op == 12) = false := by rw [Bool.eq_false_iff]; intro hc; simp at hc h54; omega
     have o39 : (n.op == 39) = false := by rw [Bool.eq_false_iff]; intro hc; simp at hc h54; omega
     have e : stC n d fd fl = (decide (2 ≤ n.kids.length) && (List.range (n.kids.length - 1)).all (flowK n.kids)) := by unfold stC; rw [h10', h54]; rfl
     have e2 : sortsC n = List.replicate (n.kids.length - 1) 4 ++ [2] := by unfold sortsC; rw [h10', h54]; rfl
     have he : emptyB n.name = true := by
      revert hB; rw [hn0, h10']; simp
     have he' : (n.name.toList == (⟨#[]⟩ : ByteArray).toList) = true := he
     rw [e, e2, o12, o39, h54, Bool.or_true, Bool.or_false, Bool.or_false]
     simp only [if_true, he', Bool.not_true, Bool.false_eq_true, if_false]
     by_cases h2 : 2 ≤ n.kids.length
     ·have hd : decide ((n.kids.length : Int) < 2) = false := by simp; omega
      have e3 : IntKind.wrap .i64 ((n.kids.length : Int) - 1) = ((n.kids.length - 1 : Nat) : Int) := by rw [w64 (by omega) (by omega)]; omega
      have e4 : IntKind.wrap .i64 (((n.kids.length - 1 : Nat) : Int) - 1) = ((n.kids.length - 2 : Nat) : Int) := by rw [w64 (by omega) (by omega)]; omega
      simp only [hd, Bool.false_eq_true, if_false, Option.bind_some, Out.fin_go, hs0, Option.isNone_none, must, if_true, e3, e4, decide_eq_true h2, Bool.true_and]
      refine ob _ (scanG (n.kids.length - 1) (fun i => ((i : Int), List.replicate i (4 : Int))) (flowK n.kids) (Out.out false : Out (List Int × Tree_placeA) Bool) (List.replicate (n.kids.length - 1) 4) (fun g i hi => ?_) (fun g => ?_) (by omega) rfl) ?_
      ·have hi' : i < n.kids.length := by omega
       have hx : n.kids[i]? = some n.kids[i] := List.getElem?_eq_getElem hi'
       have hd : decide ((i : Int) < ((n.kids.length - 1 : Nat) : Int)) = true := by simp; omega
       have hcut : cutL n.kids none (some (i : Int)) = some (n.kids.take i) := by
        unfold cutL; simp only [Option.getD_some, Option.getD_none]
        rw [if_pos (by omega)]; simp
       simp only [hd, if_true, idx_nat, hx, Option.bind_some, hcut]
       have hC : flowK n.kids i = (!(n.kids[i].op != 55 && (n.kids[i].op != 56 || (i : Int) != ((n.kids.length - 2 : Nat) : Int))) && (n.kids.take i).all fun y => !(n.kids[i].op == 55 && y.name.toList == n.kids[i].name.toList)) := by unfold flowK; rw [hx]; rfl
       rw [hC, w64s (by omega)]
       simp only [orO, andO, Option.bind_some]
       refine ob (if (!(n.kids[i].op != 55 && (n.kids[i].op != 56 || (i : Int) != ((n.kids.length - 2 : Nat) : Int))) && (n.kids.take i).all fun y => !(n.kids[i].op == 55 && y.name.toList == n.kids[i].name.toList)) then .go (List.replicate (i + 1) 4) else .out (.out (.out false))) ?_ ?_
       ·cases hb : (n.kids[i].op != 55 && (n.kids[i].op != 56 || (i : Int) != ((n.kids.length - 2 : Nat) : Int))) with
        | true => rfl
        | false =>
         simp only [Option.bind_some, Bool.false_eq_true, if_false, Out.fin_go, Bool.not_false, Bool.true_and]
         have hti : (n.kids.take i).length = i := by rw [List.length_take]; omega
         refine ob _ (scanG (n.kids.take i).length (fun j => (j : Int)) (fun j => ((n.kids.take i)[j]?).all fun y => !(n.kids[i].op == 55 && y.name.toList == n.kids[i].name.toList)) (.out (.out (.out false))) () (fun g' j hj => ?_) (fun g' => ?_) (by omega) rfl) ?_
         ·have hy : (n.kids.take i)[j]? = some (n.kids.take i)[j] := List.getElem?_eq_getElem hj
          simp only [lt_t hy, if_true, idx_nat, hy, Option.bind_some, Option.all_some]
          rw [w64s (by omega)]
          cases (n.kids[i].op == 55 && (n.kids.take i)[j].name.toList == n.kids[i].name.toList) <;> rfl
         ·simp only [lt_f, Bool.false_eq_true, if_false]
         ·rw [range_all]
          cases ((n.kids.take i).all fun y => !(n.kids[i].op == 55 && y.name.toList == n.kids[i].name.toList)) with
          | false => rfl
          | true => simp only [if_true, Out.fin_go, app_one (show i ≤ big by unfold big; omega), Option.bind_some]
       ·cases (!(n.kids[i].op != 55 && (n.kids[i].op != 56 || (i : Int) != ((n.kids.length - 2 : Nat) : Int))) && (n.kids.take i).all fun y => !(n.kids[i].op == 55 && y.name.toList == n.kids[i].name.toList)) <;> rfl
      ·have hd : decide (((n.kids.length - 1 : Nat) : Int) < ((n.kids.length - 1 : Nat) : Int)) = false := by simp
       simp only [hd, Bool.false_eq_true, if_false]
      ·cases (List.range (n.kids.length - 1)).all (flowK n.kids) with
       | false => rfl
       | true =>
        simp only [if_true, Out.fin_go, appO]
        rw [if_pos (by simp; omega)]; rfl
     ·have hd : decide ((n.kids.length : Int) < 2) = true := by simp; omega
      have hd2 : decide (2 ≤ n.kids.length) = false := by simp; omega
      simp only [hd, hd2, if_true, Option.bind_some, Bool.false_and]
      rfl
    ·have h54' : (n.op == 54) = false := by simpa using h54
     have e2 : sortsC n = (sortsS n.op).getD [] := by unfold sortsC; rw [h10', h54']; rfl
     have e1 : stC n d fd fl = if n.op == 3 then !(d || (fd || fl)) else if n.op == 12 then !(d || fl) else if n.op == 39 then !(fl || (((n.kids.length : Int) != 1) || !((n.kids[0]?).all diffS))) else true := by
      unfold stC; rw [h10', h54']; rfl
     rw [e1, e2, h54', Bool.or_false]
     simp only [Bool.false_eq_true, if_false]
     by_cases h3 : (n.op == 3) = true
     ·have o12 : (n.op == 12) = false := by rw [Bool.eq_false_iff]; intro hc; simp at hc h3; omega
      have o39 : (n.op == 39) = false := by rw [Bool.eq_false_iff]; intro hc; simp at hc h3; omega
      simp only [h3, o12, o39, if_true, Bool.or_false]
      cases d <;> cases fd <;> cases fl <;> rfl
     have h3' : (n.op == 3) = false := by simpa using h3
     by_cases h12 : (n.op == 12) = true
     ·have o39 : (n.op == 39) = false := by rw [Bool.eq_false_iff]; intro hc; simp at hc h12; omega
      simp only [h3', h12, o39, if_true, Bool.or_false, Bool.or_true, Bool.false_eq_true, if_false]
      cases d <;> cases fd <;> cases fl <;> rfl
     have h12' : (n.op == 12) = false := by simpa using h12
     by_cases h39 : (n.op == 39) = true
     ·simp only [h3', h12', h39, if_true, Bool.or_false, Bool.or_true, Bool.false_eq_true, if_false]
      cases fl with
      | true => rfl
      | false =>
       by_cases hk : n.kids.length = 1
       ·have hx : n.kids[0]? = some n.kids[0] := List.getElem?_eq_getElem (by omega)
        have hm : n.kids[0] ∈ n.kids := List.getElem_mem (by omega)
        have hs := NodeA.size_lt hm
        have i0 : idx n.kids 0 = some n.kids[0] := by rw [← hx]; exact idx_nat (k := 0)
        have e : ((n.kids.length : Int) != 1) = false := by simp [hk]
        simp only [e, Bool.false_eq_true, if_false, i0, hx, Option.bind_some, Option.all_some, tree_differentiable_eq (show n.kids[0].size ≤ K by omega) (show n.kids[0].size ≤ 4611686018427387904 by omega)]
        cases diffS n.kids[0] <;> cases d <;> cases fd <;> rfl
       ·have e : ((n.kids.length : Int) != 1) = true := by simp; omega
        simp only [e, Bool.false_eq_true, if_false, if_true, Bool.false_or, Bool.true_or]
        rfl
     have h39' : (n.op == 39) = false := by simpa using h39
     simp only [h3', h12', h39', Bool.false_eq_true, if_false, if_true, Bool.or_false]
  cases hC : ((!(n.op == 10 || n.op == 37) || nameB n.name) && stC n d fd fl) with
  | false =>
   have : (nameC n && stC n d fd fl) = false := by
    unfold nameC
    revert hB hC
    cases namedS n.op <;> cases nameB n.name <;> cases emptyB n.name <;> cases (n.op == 10 || n.op == 37) <;> cases stC n d fd fl <;> simp
   rw [← Bool.and_assoc, this]; rfl
  | true =>
  have hN : nameC n = true := by
   unfold nameC
   revert hB hC
   cases namedS n.op <;> cases nameB n.name <;> cases emptyB n.name <;> cases (n.op == 10 || n.op == 37) <;> simp
  have hS : stC n d fd fl = true := by
   revert hC; cases stC n d fd fl <;> simp
  rw [hN, hS]
  simp only [if_true, Out.fin_go, Bool.true_and]
  have hne : ∀ s ∈ sortsC n, s ≠ 0 := by
   unfold sortsC
   split
   ·intro s hs; have := List.eq_of_mem_replicate hs; omega
   ·split
    ·intro s hs
     rcases List.mem_append.1 hs with hs | hs
     ·have := List.eq_of_mem_replicate hs; omega
     ·have := List.mem_singleton.1 hs; omega
    ·exact htab.2.2.2.2.2.2.2
  by_cases hlen : n.kids.length = (sortsC n).length
  ·have e : ((n.kids.length : Int) != ((sortsC n).length : Int)) = false := by rw [hlen]; simp
   simp only [e, Bool.false_eq_true, if_false]
   refine ob (if ((n.kids.map fun x => sortS x.op) == sortsC n && n.kids.all (fun k => okS k (d || n.op == 12) (fd || n.op == 39) (fl || n.op == 54))) then .go () else .out false) ?_ ?_
   ·rw [← map_eq hlen (fun k => okS k (d || n.op == 12) (fd || n.op == 39) (fl || n.op == 54))]
    refine scanG n.kids.length (fun i => (i : Int)) _ false () (fun g i hi => ?_) (fun g => ?_) (by omega) rfl
    ·have hx : n.kids[i]? = some n.kids[i] := List.getElem?_eq_getElem hi
     have hm := List.getElem_mem hi
     have hs := NodeA.size_lt hm
     have hbk : n.kids[i].size ≤ big := by unfold big; omega
     have hy : (sortsC n)[i]? = some ((sortsC n)[i]'(by omega)) := List.getElem?_eq_getElem (by omega)
     have hy0 := hne _ (List.getElem_mem (show i < (sortsC n).length by omega))
     simp only [lt_t hx, if_true, idx_nat, hx, hy, Option.bind_some, tree_Sort_eq, Option.all_some]
     generalize (sortsC n)[i]'(by omega) = s at hy0
     by_cases hq : sortS n.kids[i].op = s
     ·have e1 : (sortS n.kids[i].op != s) = false := by simp [hq]
      simp only [e1, Bool.false_eq_true, if_false, Bool.not_false, Bool.true_and, ih n.kids[i] ⟨d || n.op == 12, fd || n.op == 39, fl || n.op == 54⟩ (by omega) (by omega) hbk (by rw [hq]; exact hy0), Option.bind_some]
      rw [w64s (by omega)]
      cases okS n.kids[i] (d || n.op == 12) (fd || n.op == 39) (fl || n.op == 54) <;> rfl
     ·have e1 : (sortS n.kids[i].op != s) = true := by simp [hq]
      simp only [e1, if_true, Bool.not_true, Bool.false_and]
      rfl
    ·simp only [lt_f, Bool.false_eq_true, if_false]
   ·rw [← Bool.and_assoc ((n.kids.map fun x => sortS x.op) == sortsC n)]
    cases hD : ((n.kids.map fun x => sortS x.op) == sortsC n && n.kids.all (fun k => okS k (d || n.op == 12) (fd || n.op == 39) (fl || n.op == 54))) with
    | false => rfl
    | true =>
     simp only [if_true, Out.fin_go, Bool.true_and]
     unfold lastC
     by_cases h89 : (n.op == 8 || n.op == 9) = true
     ·have a10 : (n.op == 10 || n.op == 37) = false := by rw [Bool.eq_false_iff]; intro hc; simp at hc h89; omega
      have a54 : (n.op == 54) = false := by rw [Bool.eq_false_iff]; intro hc; simp at hc h89; omega
      have h2 : n.kids.length = 2 := by
       rw [hlen]; unfold sortsC
       rw [a10, a54, htab.2.2.2.2.2.1 h89]; rfl
      have hx : n.kids[1]? = some n.kids[1] := List.getElem?_eq_getElem (by omega)
      have i1 : idx n.kids 1 = some n.kids[1] := by rw [← hx]; exact idx_nat (k := 1)
      simp only [i1, hx, Option.bind_some, Option.all_some]
      cases (n.op == 8) with
      | true => cases (n.kids[1].op == 1) <;> rfl
      | false =>
       cases (n.op == 9) with
       | false => rfl
       | true =>
        simp only [Bool.false_eq_true, if_false, if_true]
        cases (n.kids[1].op == 1) with
        | false => rfl
        | true =>
         simp only [if_true, Bool.true_and]
         by_cases h0 : n.kids[1].num.num.length = 0
         ·rw [int_eq0 h0]; rfl
         ·have hw : n.kids[1].num.num[0]? = some n.kids[1].num.num[0] := List.getElem?_eq_getElem (by omega)
          have i0 : idx n.kids[1].num.num 0 = some n.kids[1].num.num[0] := by rw [← hw]; exact idx_nat (k := 0)
          simp only [int_ne0 h0, Bool.false_eq_true, if_false, Bool.false_or, i0, hw, Option.bind_some, Option.all_some, andO]
     ·have h8 : (n.op == 8) = false := by revert h89; cases (n.op == 8) <;> simp
      have h9 : (n.op == 9) = false := by revert h89; cases (n.op == 9) <;> simp
      rw [h8, h9]; rfl
  ·have e : ((n.kids.length : Int) != ((sortsC n).length : Int)) = true := by simp; omega
   have e2 : ((n.kids.map fun x => sortS x.op) == sortsC n) = false := by
    rw [beq_eq_false_iff_ne]; intro hq; apply hlen; rw [← hq]; simp
   rw [e, e2]; rfl
theorem okS_fl : ∀ n d fd, okS n d fd true = (okS n d fd false && !primS n) := by
 refine NodeA.ind fun n ih d fd => ?_
 rw [okS_eq n d fd true, okS_eq n d fd false, primS_eq]
 have hk : n.kids.all (fun k => okS k (d || n.op == 12) (fd || n.op == 39) true) = (n.kids.all (fun k => okS k (d || n.op == 12) (fd || n.op == 39) false) && !n.kids.any primS) := by
  rw [Bool.eq_iff_iff, Bool.and_eq_true, List.all_eq_true, List.all_eq_true, Bool.not_eq_true', List.any_eq_false]
  constructor
  ·intro h
   refine ⟨fun x hx => ?_, fun x hx => ?_⟩ <;> (have := h x hx; rw [ih x hx] at this; revert this; cases okS x (d || n.op == 12) (fd || n.op == 39) false <;> cases primS x <;> simp)
  ·rintro ⟨h1, h2⟩ x hx
   rw [ih x hx, h1 x hx]
   have := h2 x hx
   revert this; cases primS x <;> simp
 have hst : stC n d fd true = (stC n d fd false && !(n.op == 3 || (n.op == 12 || n.op == 39))) := by
  unfold stC
  by_cases h1 : (n.op == 10 || n.op == 37) = true
  ·have a3 : (n.op == 3) = false := by rw [Bool.eq_false_iff]; intro hc; simp at hc h1; omega
   have a12 : (n.op == 12) = false := by rw [Bool.eq_false_iff]; intro hc; simp at hc h1; omega
   have a39 : (n.op == 39) = false := by rw [Bool.eq_false_iff]; intro hc; simp at hc h1; omega
   simp [h1, a3, a12, a39]
  ·have h1' : (n.op == 10 || n.op == 37) = false := by simpa using h1
   by_cases h2 : (n.op == 54) = true
   ·have a3 : (n.op == 3) = false := by rw [Bool.eq_false_iff]; intro hc; simp at hc h2; omega
    have a12 : (n.op == 12) = false := by rw [Bool.eq_false_iff]; intro hc; simp at hc h2; omega
    have a39 : (n.op == 39) = false := by rw [Bool.eq_false_iff]; intro hc; simp at hc h2; omega
    rw [h1', h2, a3, a12, a39]; simp
   ·have h2' : (n.op == 54) = false := by simpa using h2
    rw [h1', h2']
    cases (n.op == 3) <;> cases (n.op == 12) <;> cases (n.op == 39) <;> simp
 have hfl : (fun k => okS k (d || n.op == 12) (fd || n.op == 39) (true || n.op == 54)) = fun k => okS k (d || n.op == 12) (fd || n.op == 39) true := by funext k; rw [Bool.true_or]
 rw [hfl, hst]
 by_cases h54 : (n.op == 54) = true
 ·have a3 : (n.op == 3) = false := by rw [Bool.eq_false_iff]; intro hc; simp at hc h54; omega
  have a12 : (n.op == 12) = false := by rw [Bool.eq_false_iff]; intro hc; simp at hc h54; omega
  have a39 : (n.op == 39) = false := by rw [Bool.eq_false_iff]; intro hc; simp at hc h54; omega
  simp only [a12, a39, Bool.or_false] at hk
  simp only [h54, a3, a12, a39, Bool.or_true, Bool.or_false, Bool.not_false, Bool.and_true, Bool.false_or, hk]
  cases numC n <;> cases nameC n <;> cases stC n d fd false <;> cases ((n.kids.map fun x => sortS x.op) == sortsC n) <;> cases (n.kids.all fun k => okS k d fd false) <;> cases n.kids.any primS <;> cases lastC n <;> rfl
 ·have h54' : (n.op == 54) = false := by simpa using h54
  rw [h54', hk]
  simp only [Bool.or_false]
  cases numC n <;> cases nameC n <;> cases stC n d fd false <;> cases ((n.kids.map fun x => sortS x.op) == sortsC n) <;> cases (n.kids.all fun k => okS k (d || n.op == 12) (fd || n.op == 39) false) <;> cases n.kids.any primS <;> cases lastC n <;> cases (n.op == 3 || (n.op == 12 || n.op == 39)) <;> rfl
theorem Natural_eq {K : Nat} {r : RatA} (hw : r.words) : ∃ z, r08_Natural K r 20 = some z ∧ decide (0 ≤ z) = (((r.num.length : Int) == 0) || ((r.num.length : Int) == 1) && (r.num[0]?).all fun w => decide (w ≤ 20)) := by
 unfold r08_Natural
 by_cases h0 : r.num.length = 0
 ·have e : ((r.num.length : Int) == 0) = true := by simp [h0]
  exact ⟨0, by rw [e]; rfl, by rw [e]; rfl⟩
 have e : ((r.num.length : Int) == 0) = false := int_ne0 h0
 have hx : r.num[0]? = some r.num[0] := List.getElem?_eq_getElem (by omega)
 have i0 : idx r.num 0 = some r.num[0] := by rw [← hx]; exact idx_nat (k := 0)
 have hb := hw.1 r.num[0] (List.getElem_mem (by omega))
 have ew : IntKind.wrap .i64 r.num[0] = r.num[0] := w64 (by omega) (by omega)
 simp only [e, Bool.false_eq_true, if_false, i0, hx, Option.bind_some, ew, Option.all_some, Bool.false_or]
 by_cases h1 : r.num.length = 1
 ·have e1 : decide ((1 : Int) < (r.num.length : Int)) = false := by simp; omega
  have e2 : ((r.num.length : Int) == 1) = true := by simp [h1]
  simp only [e1, e2, Bool.false_eq_true, if_false, Option.bind_some, Bool.true_and]
  by_cases h2 : r.num[0] ≤ 20
  ·have e3 : decide ((20 : Int) < r.num[0]) = false := by simp; omega
   refine ⟨r.num[0], by rw [e3]; rfl, ?_⟩
   rw [decide_eq_true h2, decide_eq_true hb.1]
  ·have e3 : decide ((20 : Int) < r.num[0]) = true := by simp; omega
   refine ⟨-1, by rw [e3]; rfl, ?_⟩
   rw [decide_eq_false h2]; rfl
 ·have e1 : decide ((1 : Int) < (r.num.length : Int)) = true := by simp; omega
  have e2 : ((r.num.length : Int) == 1) = false := by simp; omega
  refine ⟨-1, by rw [e1]; rfl, ?_⟩
  rw [e2]; rfl
theorem flow_eq {n : NodeA} (h54 : n.op = 54) (t f : Bool) :
  (decide (2 ≤ n.kids.length) && (!n.kids.any primS && ((n.kids[n.kids.length - 1]?).all (fun x => sortS x.op == 2 && okS x t f false) && (List.range (n.kids.length - 1)).all fun i => (n.kids[i]?).all fun x =>
   !(x.op == 56 && decide ((i : Int) < ((n.kids.length - 2 : Nat) : Int)) || (x.op != 56 && x.op != 55 || !(sortS x.op == 4 && okS x t f false))) && (n.kids.take i).all fun y => !(x.op == 55 && y.name.toList == x.name.toList)))) =
  (stC n t f false && ((n.kids.map fun x => sortS x.op) == sortsC n && n.kids.all fun k => okS k t f true)) := by
 have e1 : (n.op == 10 || n.op == 37) = false := by rw [h54]; rfl
 have e2 : (n.op == 54) = true := by rw [h54]; rfl
 unfold stC sortsC
 rw [e1, e2]
 simp only [Bool.false_eq_true, if_false, if_true]
 by_cases h2 : 2 ≤ n.kids.length
 ·rw [decide_eq_true h2, Bool.true_and, Bool.true_and, Bool.eq_iff_iff]
  have hl : n.kids.length - 1 < n.kids.length := by omega
  rw [List.getElem?_eq_getElem hl, Option.all_some]
  simp only [Bool.and_eq_true, List.all_eq_true, Bool.not_eq_true', List.any_eq_false, List.mem_range, okS_fl]
  have hget : ∀ i (hi : i < n.kids.length), n.kids[i]? = some n.kids[i] := fun i hi => List.getElem?_eq_getElem hi
  have hmap : ((n.kids.map fun x => sortS x.op) == List.replicate (n.kids.length - 1) 4 ++ [2]) = true ↔ (sortS n.kids[n.kids.length - 1].op = 2 ∧ ∀ i (hi : i < n.kids.length - 1), sortS (n.kids[i]'(by omega)).op = 4) := by
   rw [beq_iff_eq]
   constructor
   ·intro h
    have hg : ∀ i (hi : i < n.kids.length), sortS n.kids[i].op = (List.replicate (n.kids.length - 1) (4 : Int) ++ [2])[i]'(by simp; omega) := fun i hi => by
     have : (n.kids.map fun x => sortS x.op)[i]'(by simpa using hi) = sortS n.kids[i].op := by simp
     rw [← this]
     congr 1
    refine ⟨?_, fun i hi => ?_⟩
    ·rw [hg _ hl, List.getElem_append_right (by simp)]; simp
    ·rw [hg i (by omega), List.getElem_append_left (by simpa using hi)]; simp
   ·rintro ⟨h3, h4⟩
    refine List.ext_getElem (by simp; omega) fun i hi1 hi2 => ?_
    rw [List.getElem_map]
    by_cases hi : i < n.kids.length - 1
    ·rw [List.getElem_append_left (by simpa using hi), List.getElem_replicate]; exact h4 i hi
    ·have : i = n.kids.length - 1 := by simp at hi1; omega
     subst this
     rw [List.getElem_append_right (by simp)]; simpa using h3
  rw [hmap]
  constructor
  ·rintro ⟨hp, ⟨hs, ho⟩, hall⟩
   have at' : ∀ i (hi : i < n.kids.length - 1), (!(n.kids[i].op == 56 && decide ((i : Int) < ((n.kids.length - 2 : Nat) : Int)) || (n.kids[i].op != 56 && n.kids[i].op != 55 || !(sortS n.kids[i].op == 4 && okS n.kids[i] t f false)))) = true ∧ ∀ y ∈ n.kids.take i, (n.kids[i].op == 55 && y.name.toList == n.kids[i].name.toList) = false := fun i hi => by
    have := hall i hi
    rw [hget i (by omega), Option.all_some] at this
    simpa only [Bool.and_eq_true, List.all_eq_true, Bool.not_eq_true'] using this
   refine ⟨fun i hi => ?_, ⟨by simpa using hs, fun i hi => ?_⟩, fun x hx => ?_⟩
   ·obtain ⟨h3, h4⟩ := at' i hi
    unfold flowK
    rw [hget i (by omega), Option.all_some, Bool.and_eq_true]
    refine ⟨?_, ?_⟩
    ·simp at h3 ⊢; omega
    ·simp only [List.all_eq_true, Bool.not_eq_true']; exact h4
   ·obtain ⟨h3, _⟩ := at' i hi
    simp at h3; exact h3.2.2.1
   ·obtain ⟨i, hi, rfl⟩ := List.mem_iff_getElem.1 hx
    refine ⟨?_, by simpa using hp _ hx⟩
    by_cases hi' : i < n.kids.length - 1
    ·obtain ⟨h3, _⟩ := at' i hi'
     simp at h3; exact h3.2.2.2
    ·have : i = n.kids.length - 1 := by omega
     subst this; exact ho
  ·rintro ⟨hf, ⟨hs, h4⟩, hk⟩
   refine ⟨fun x hx => by have := (hk x hx).2; simp [this], ⟨by simpa using hs, (hk _ (List.getElem_mem hl)).1⟩, fun i hi => ?_⟩
   have := hf i hi
   unfold flowK at this
   rw [hget i (by omega), Option.all_some] at this ⊢
   simp only [Bool.and_eq_true, List.all_eq_true, Bool.not_eq_true'] at this ⊢
   refine ⟨?_, this.2⟩
   have h5 := (hk _ (List.getElem_mem (show i < n.kids.length by omega))).1
   have h6 := h4 i hi
   have h7 := this.1
   simp at h7 ⊢
   refine ⟨by omega, by omega, h6, h5⟩
 ·rw [decide_eq_false h2]; rfl
def kidV (n : NodeA) : ByteArray := if (n.op == 10 || n.op == 37) then (if ((n.kids.length : Int) == 1) then ⟨#[49]⟩ else kidB n.op) else kidB n.op
def digs (v : ByteArray) : List Int := v.toList.map fun c => (c.toNat : Int) - 48
def lastW (n : NodeA) : Bool := if n.op == 39 then (n.kids[0]?).all diffS else lastC n
theorem size_toList (v : ByteArray) : v.toList.length = v.size := by rw [bytes_toList]; exact Array.length_toList
theorem strAt_list {v : ByteArray} {i : Nat} (h : i < v.size) : ∃ c : UInt8, strAt v (i : Int) = some c ∧ v.toList[i]? = some c := by
 refine ⟨v[i], (strAt_get h).1, ?_⟩
 rw [bytes_toList, Array.getElem?_toList]
 exact Array.getElem?_eq_getElem h
theorem kidV_ok {n : NodeA} (hs : sortS n.op ≠ 0) : (∀ c ∈ (kidV n).toList, 48 ≤ c.toNat ∧ c.toNat ≤ 57) ∧ (∀ z ∈ digs (kidV n), z ≠ 0) := by
 have htab := tab hs
 have h1 : ∀ c ∈ (⟨#[49]⟩ : ByteArray).toList, c = 49 := by
  intro c hc; rw [bytes_toList] at hc; exact List.mem_singleton.1 hc
 have hk : ∀ z ∈ digs (kidB n.op), z ≠ 0 := by unfold digs; rw [htab.2.1]; exact htab.2.2.2.2.2.2.2
 unfold kidV
 split
 ·split
  ·refine ⟨fun c hc => by rw [h1 c hc]; decide, fun z hz => ?_⟩
   unfold digs at hz
   obtain ⟨c, hc, rfl⟩ := List.mem_map.1 hz
   rw [h1 c hc]; decide
  ·exact ⟨htab.2.2.1, hk⟩
 ·exact ⟨htab.2.2.1, hk⟩
theorem well_side {n : NodeA} {t f : Bool} (hs : sortS n.op ≠ 0) (h54 : (n.op == 54) = false) (hC : (t && n.op == 12 || (t || f) && n.op == 3) = false) (A : Bool) :
  (stC n t f false && ((n.kids.map fun x => sortS x.op) == sortsC n && (A && lastC n))) = ((n.kids.map fun x => sortS x.op) == digs (kidV n) && (A && lastW n)) := by
 have htab := tab hs
 by_cases h10 : (n.op == 10 || n.op == 37) = true
 ·obtain ⟨hs0, hn0⟩ := htab.2.2.2.1 (by rw [h10]; rfl)
  have a39 : (n.op == 39) = false := by rw [Bool.eq_false_iff]; intro hc; simp at hc h10; omega
  have hk : digs (kidB n.op) = [] := by unfold digs; rw [htab.2.1, hs0]; rfl
  have e1 : stC n t f false = decide (n.kids.length ≤ 1) := by unfold stC; rw [if_pos h10]
  have e2 : sortsC n = List.replicate n.kids.length 1 := by unfold sortsC; rw [if_pos h10]
  have e3 : lastW n = lastC n := by unfold lastW; rw [a39]; rfl
  rw [e1, e2, e3]
  unfold kidV
  rw [if_pos h10]
  by_cases h1 : n.kids.length = 1
  ·have : ((n.kids.length : Int) == 1) = true := by simp [h1]
   rw [this, if_pos rfl, h1]
   have : digs ⟨#[49]⟩ = [1] := by unfold digs; rw [bytes_toList]; rfl
   rw [this]; rfl
  ·have : ((n.kids.length : Int) == 1) = false := by rw [beq_eq_false_iff_ne]; omega
   rw [this]
   simp only [Bool.false_eq_true, if_false, hk]
   by_cases h0 : n.kids.length = 0
   ·rw [h0]; rfl
   ·have e : decide (n.kids.length ≤ 1) = false := by simp; omega
    have : ((n.kids.map fun x => sortS x.op) == ([] : List Int)) = false := by
     rw [beq_eq_false_iff_ne]; intro hq; apply h0; simpa using congrArg List.length hq
    rw [e, this]; rfl
 ·have h10' : (n.op == 10 || n.op == 37) = false := by simpa using h10
  have e2 : sortsC n = digs (kidV n) := by
   unfold sortsC kidV digs; rw [h10', h54]; exact htab.2.1.symm
  rw [e2]
  have e1 : stC n t f false = if n.op == 39 then !(((n.kids.length : Int) != 1) || !((n.kids[0]?).all diffS)) else true := by
   unfold stC
   rw [h10', h54]
   by_cases h3 : (n.op == 3) = true
   ·have a39 : (n.op == 39) = false := by rw [Bool.eq_false_iff]; intro hc; simp at hc h3; omega
    have a12 : (n.op == 12) = false := by rw [Bool.eq_false_iff]; intro hc; simp at hc h3; omega
    rw [h3, a12] at hC
    rw [h3, a39]
    revert hC; cases t <;> cases f <;> simp
   ·have h3' : (n.op == 3) = false := by simpa using h3
    by_cases h12 : (n.op == 12) = true
    ·have a39 : (n.op == 39) = false := by rw [Bool.eq_false_iff]; intro hc; simp at hc h12; omega
     rw [h3', h12] at hC
     rw [h3', h12, a39]
     revert hC; cases t <;> simp
    ·have h12' : (n.op == 12) = false := by simpa using h12
     rw [h3', h12']; simp
  rw [e1]
  by_cases h39 : (n.op == 39) = true
  ·have hlast : lastC n = true := by
    unfold lastC
    have a8 : (n.op == 8) = false := by rw [Bool.eq_false_iff]; intro hc; simp at hc h39; omega
    have a9 : (n.op == 9) = false := by rw [Bool.eq_false_iff]; intro hc; simp at hc h39; omega
    rw [a8, a9]; rfl
   have hd : digs (kidV n) = [2] := by rw [← e2]; unfold sortsC; rw [h10', h54, htab.2.2.2.2.1 (by simpa using h39)]; rfl
   have e3 : lastW n = (n.kids[0]?).all diffS := by unfold lastW; rw [h39]; rfl
   rw [h39, hlast, e3, hd]
   simp only [if_true, Bool.and_true]
   cases hm : ((n.kids.map fun x => sortS x.op) == ([2] : List Int)) with
   | false => simp
   | true =>
    have hl : n.kids.length = 1 := by have := congrArg List.length (eq_of_beq hm); simpa using this
    have : ((n.kids.length : Int) != 1) = false := by simp [hl]
    rw [this]
    cases (n.kids[0]?).all diffS <;> cases A <;> rfl
  ·have h39' : (n.op == 39) = false := by simpa using h39
   have e3 : lastW n = lastC n := by unfold lastW; rw [h39']; rfl
   rw [h39', e3]; rfl
theorem well_iter {K : Nat} (hK : 12 < K) : ∀ (k : Nat),
  (∀ (n : NodeA) (s : Int) (t f : Bool), 2 * n.size ≤ k → 2 * n.size ≤ K → n.size ≤ big → n.words → s ≠ 0 → (grp_r08_well K k).1 (n, s, t, f) = some (sortS n.op == s && okS n t f false)) ∧
  (∀ (n : NodeA) (t f : Bool), 2 * n.size ≤ k + 1 → 2 * n.size ≤ K → n.size ≤ big → n.words → n.op = 54 → (grp_r08_well K k).2 (n, t, f) = some (stC n t f false && ((n.kids.map fun x => sortS x.op) == sortsC n && n.kids.all fun k => okS k t f true))) := by
 intro k
 induction k with
 | zero => exact ⟨fun n s t f h => by have := n.size_pos; omega, fun n t f h => by have := n.size_pos; omega⟩
 | succ k ih =>
  obtain ⟨ih1, ih2⟩ := ih
  refine ⟨fun n s t f h hK2 hb hw hs => ?_, fun n t f h hK2 hb hw h54 => ?_⟩
  ·show r08_well_body K (grp_r08_well K k).1 (grp_r08_well K k).2 n s t f = _
   generalize (grp_r08_well K k).1 = S1 at ih1 ⊢
   generalize (grp_r08_well K k).2 = S2 at ih2 ⊢
   have hl := n.kids_lt
   have hbig : n.size ≤ 1099511627776 := hb
   unfold r08_well_body
   simp only [r08_Sort_eq, r08_named_eq, r08_Name_eq hK, Option.bind_some]
   by_cases hsort : sortS n.op = s
   ·subst hsort
    have htab := tab hs
    have e0 : (sortS n.op != sortS n.op) = false := by simp
    have e0' : (sortS n.op == sortS n.op) = true := by simp
    rw [e0, e0', Bool.true_and, okS_eq]
    simp only [Bool.false_eq_true, if_false]
    refine ob (if nameC n then .go () else .out false) ?_ ?_
    ·unfold nameC
     rw [htab.1]
     have hem : ((n.name.toList == (⟨#[]⟩ : ByteArray).toList) = true → nameB n.name = false) := emptyB_name
     have hem' : (n.name.toList == (⟨#[]⟩ : ByteArray).toList) = emptyB n.name := rfl
     rw [hem'] at hem ⊢
     revert hem
     cases (namedS n.op || (n.op == 10 || n.op == 37)) <;> cases nameB n.name <;> cases emptyB n.name <;> simp [outM]
    cases hB : nameC n with
    | false => simp [Out.fin]
    | true =>
    simp only [if_true, Out.fin_go]
    refine ob _ num_join' ?_
    cases hA : numC n with
    | false => rfl
    | true =>
    simp only [if_true, Out.fin_go, Bool.true_and]
    refine ob (if !(t && n.op == 12 || (t || f) && n.op == 3) then .go () else .out false) ?_ ?_
    ·cases t <;> cases f <;> cases (n.op == 12) <;> cases (n.op == 3) <;> rfl
    by_cases hC : (t && n.op == 12 || (t || f) && n.op == 3) = true
    ·have : stC n t f false = false := by
      unfold stC
      have h12 : (n.op == 12) = true ∨ (n.op == 3) = true := by
       revert hC; cases t <;> cases f <;> cases (n.op == 12) <;> cases (n.op == 3) <;> simp
      have a10 : (n.op == 10 || n.op == 37) = false := by rw [Bool.eq_false_iff]; intro hc; simp at hc h12; omega
      have a54 : (n.op == 54) = false := by rw [Bool.eq_false_iff]; intro hc; simp at hc h12; omega
      rw [a10, a54]
      rcases h12 with h12 | h12
      ·have a3 : (n.op == 3) = false := by rw [Bool.eq_false_iff]; intro hc; simp at hc h12; omega
       rw [h12, a3] at hC ⊢
       revert hC; cases t <;> cases f <;> simp
      ·have a12 : (n.op == 12) = false := by rw [Bool.eq_false_iff]; intro hc; simp at hc h12; omega
       rw [h12, a12] at hC ⊢
       revert hC; cases t <;> cases f <;> simp
     rw [hC, this]; rfl
    have hC' : (t && n.op == 12 || (t || f) && n.op == 3) = false := by simpa using hC
    rw [hC']
    simp only [Bool.not_false, if_true, Out.fin_go]
    by_cases h54 : (n.op == 54) = true
    ·have a12 : (n.op == 12) = false := by rw [Bool.eq_false_iff]; intro hc; simp at hc h54; omega
     have a39 : (n.op == 39) = false := by rw [Bool.eq_false_iff]; intro hc; simp at hc h54; omega
     have hlast : lastC n = true := by
      unfold lastC
      have a8 : (n.op == 8) = false := by rw [Bool.eq_false_iff]; intro hc; simp at hc h54; omega
      have a9 : (n.op == 9) = false := by rw [Bool.eq_false_iff]; intro hc; simp at hc h54; omega
      rw [a8, a9]; rfl
     rw [h54, a12, a39, hlast]
     simp only [if_true, Bool.or_false, Bool.or_true, Bool.and_true]
     rw [ih2 n t f (by omega) hK2 hb hw (by simpa using h54)]; rfl
    have h54' : (n.op == 54) = false := by simpa using h54
    simp only [h54', Bool.false_eq_true, if_false, r08_kids_eq, Option.bind_some, orO, Bool.or_false]
    rw [well_side hs h54' hC']
    obtain ⟨hv1, hv2⟩ := kidV_ok hs
    refine ob (kidV n) (by unfold kidV; cases (n.op == 10 || n.op == 37) <;> cases ((n.kids.length : Int) == 1) <;> rfl) ?_
    have hdl : (digs (kidV n)).length = (kidV n).size := by unfold digs; rw [List.length_map, size_toList]
    by_cases hlen : n.kids.length = (digs (kidV n)).length
    ·have e : (((kidV n).size : Int) != (n.kids.length : Int)) = false := by rw [hlen, hdl]; simp
     simp only [e, Bool.false_eq_true, if_false]
     refine ob (if ((n.kids.map fun x => sortS x.op) == digs (kidV n) && n.kids.all (fun k => okS k (t || n.op == 12) (f || n.op == 39) false)) then .go () else .out false) ?_ ?_
     ·rw [← map_eq hlen (fun k => okS k (t || n.op == 12) (f || n.op == 39) false)]
      refine scanG n.kids.length (fun i => (i : Int)) _ false () (fun g i hi => ?_) (fun g => ?_) (by omega) rfl
      ·have hx : n.kids[i]? = some n.kids[i] := List.getElem?_eq_getElem hi
       have hm := List.getElem_mem hi
       have hs' := NodeA.size_lt hm
       have hbk : n.kids[i].size ≤ big := by unfold big; omega
       obtain ⟨c, hc1, hc2⟩ := strAt_list (v := kidV n) (i := i) (by omega)
       have hcm := hv1 c (List.mem_of_getElem? hc2)
       have hy : (digs (kidV n))[i]? = some ((c.toNat : Int) - 48) := by unfold digs; rw [List.getElem?_map, hc2]; rfl
       have hy0 := hv2 _ (List.mem_of_getElem? hy)
       have hd : decide ((i : Int) < ((kidV n).size : Int)) = true := by simp; omega
       have e1 : IntKind.wrap .i64 (IntKind.wrap .u8 ((c.toNat : Int) - 48)) = (c.toNat : Int) - 48 := by
        have : IntKind.wrap .u8 ((c.toNat : Int) - 48) = (c.toNat : Int) - 48 := by
         simp only [IntKind.wrap, IntKind.bits, IntKind.signed, Bool.false_and]
         simp; omega
        rw [this, w64 (by omega) (by omega)]
       simp only [hd, if_true, idx_nat, hx, hc1, hy, Option.bind_some, e1, Option.all_some]
       generalize (c.toNat : Int) - 48 = z at hy0
       have ih' : ∀ a b, S1 (n.kids[i], z, a, b) = some (sortS n.kids[i].op == z && okS n.kids[i] a b false) := fun a b => ih1 n.kids[i] z a b (by omega) (by omega) hbk (NodeA.words_kid hw hm) hy0
       simp only [ih', Option.bind_some]
       rw [w64s (by omega)]
       have e2 : (sortS n.kids[i].op != z) = !(sortS n.kids[i].op == z) := rfl
       rw [e2]
       cases t <;> cases f <;> simp only [Bool.false_eq_true, if_false, if_true, Bool.false_or, Bool.true_or, Bool.not_not] <;> cases (sortS n.kids[i].op == z) <;> (try rfl) <;> generalize okS n.kids[i] _ _ false = q <;> cases q <;> rfl
      ·have hd : decide ((n.kids.length : Int) < ((kidV n).size : Int)) = false := by simp; omega
       simp only [hd, Bool.false_eq_true, if_false]
     ·rw [← Bool.and_assoc ((n.kids.map fun x => sortS x.op) == digs (kidV n))]
      cases hD : ((n.kids.map fun x => sortS x.op) == digs (kidV n) && n.kids.all (fun k => okS k (t || n.op == 12) (f || n.op == 39) false)) with
      | false => rfl
      | true =>
       simp only [if_true, Out.fin_go, Bool.true_and]
       have hmap : (n.kids.map fun x => sortS x.op) = digs (kidV n) := by
        revert hD; cases hq : ((n.kids.map fun x => sortS x.op) == digs (kidV n)) with
        | false => simp
        | true => intro _; exact eq_of_beq hq
       unfold lastW
       by_cases h89 : (n.op == 8 || n.op == 9) = true
       ·have a10 : (n.op == 10 || n.op == 37) = false := by rw [Bool.eq_false_iff]; intro hc; simp at hc h89; omega
        have a39 : (n.op == 39) = false := by rw [Bool.eq_false_iff]; intro hc; simp at hc h89; omega
        have h2 : n.kids.length = 2 := by
         rw [hlen]; unfold kidV digs
         rw [a10]
         simp only [Bool.false_eq_true, if_false]
         rw [htab.2.1, htab.2.2.2.2.2.1 h89]; rfl
        have hx : n.kids[1]? = some n.kids[1] := List.getElem?_eq_getElem (by omega)
        have i1 : idx n.kids 1 = some n.kids[1] := by rw [← hx]; exact idx_nat (k := 1)
        have hwk := NodeA.words_num (NodeA.words_kid hw (List.getElem_mem (show 1 < n.kids.length by omega)))
        obtain ⟨z, hz1, hz2⟩ := Natural_eq (K := K) hwk
        unfold lastC
        simp only [i1, hx, Option.bind_some, Option.all_some, hz1, hz2, a39, Bool.false_eq_true, if_false]
        cases (n.op == 8) with
        | true => cases (n.kids[1].op == 1) <;> rfl
        | false =>
         cases (n.op == 9) with
         | false => rfl
         | true => cases (n.kids[1].op == 1) <;> rfl
       ·have h8 : (n.op == 8) = false := by revert h89; cases (n.op == 8) <;> simp
        have h9 : (n.op == 9) = false := by revert h89; cases (n.op == 9) <;> simp
        unfold lastC
        rw [h8, h9]
        by_cases h39 : (n.op == 39) = true
        ·have a10 : (n.op == 10 || n.op == 37) = false := by rw [Bool.eq_false_iff]; intro hc; simp at hc h39; omega
         have h1 : n.kids.length = 1 := by
          rw [hlen]; unfold kidV digs
          rw [a10]
          simp only [Bool.false_eq_true, if_false]
          rw [htab.2.1, htab.2.2.2.2.1 (by simpa using h39)]; rfl
         have hx : n.kids[0]? = some n.kids[0] := List.getElem?_eq_getElem (by omega)
         have i0 : idx n.kids 0 = some n.kids[0] := by rw [← hx]; exact idx_nat (k := 0)
         have hs0 := NodeA.size_lt (List.getElem_mem (show 0 < n.kids.length by omega))
         simp only [h39, Bool.false_eq_true, if_false, if_true, i0, hx, Option.bind_some, Option.all_some, r08_differential_eq (show n.kids[0].size ≤ K by omega) (show n.kids[0].size ≤ 4611686018427387904 by omega)]
        ·have h39' : (n.op == 39) = false := by simpa using h39
         rw [h39']; rfl
    ·have e : (((kidV n).size : Int) != (n.kids.length : Int)) = true := by rw [← hdl]; simp; omega
     have e2 : ((n.kids.map fun x => sortS x.op) == digs (kidV n)) = false := by
      rw [beq_eq_false_iff_ne]; intro hq; apply hlen; rw [← hq]; simp
     rw [e, e2]; rfl
   ·have e0 : (sortS n.op != s) = true := by simpa using hsort
    have e1 : (sortS n.op == s) = false := by simpa using hsort
    rw [e0, e1]; rfl
  ·show r08_flow_body K (grp_r08_well K k).1 (grp_r08_well K k).2 n t f = _
   generalize (grp_r08_well K k).1 = S1 at ih1 ⊢
   generalize (grp_r08_well K k).2 = S2 at ih2 ⊢
   rw [← flow_eq h54]
   have hl := n.kids_lt
   have hbig : n.size ≤ 1099511627776 := hb
   have hprim : primS n = n.kids.any primS := by rw [primS_eq, h54]; rfl
   unfold r08_flow_body
   by_cases h2 : 2 ≤ n.kids.length
   ·have hd : decide ((n.kids.length : Int) < 2) = false := by simp; omega
    have e3 : IntKind.wrap .i64 ((n.kids.length : Int) - 1) = ((n.kids.length - 1 : Nat) : Int) := by rw [w64 (by omega) (by omega)]; omega
    have e4 : IntKind.wrap .i64 ((n.kids.length : Int) - 2) = ((n.kids.length - 2 : Nat) : Int) := by rw [w64 (by omega) (by omega)]; omega
    have hx : n.kids[n.kids.length - 1]? = some n.kids[n.kids.length - 1] := List.getElem?_eq_getElem (by omega)
    have hm : n.kids[n.kids.length - 1] ∈ n.kids := List.getElem_mem (by omega)
    have hsz := NodeA.size_lt hm
    simp only [hd, Bool.false_eq_true, if_false, r08_primed_eq (show n.size ≤ K by omega) (show n.size ≤ 4611686018427387904 by omega), Option.bind_some, e3, e4, idx_nat, hx,
     ih1 n.kids[n.kids.length - 1] 2 t f (by omega) (by omega) (by unfold big; omega) (NodeA.words_kid hw hm) (by omega), decide_eq_true h2, Bool.true_and, Option.all_some, hprim]
    cases hp : n.kids.any primS with
    | true => rfl
    | false =>
    simp only [Bool.false_eq_true, if_false, Bool.not_false, Bool.true_and, Option.bind_some]
    cases hlast : (sortS n.kids[n.kids.length - 1].op == 2 && okS n.kids[n.kids.length - 1] t f false) with
    | false => rfl
    | true =>
    simp only [Bool.not_true, Bool.false_eq_true, if_false, Option.bind_some, Out.fin_go, Bool.true_and]
    refine ob _ (scanG (n.kids.length - 1) (fun i => (i : Int)) (fun i => (n.kids[i]?).all fun (x : NodeA) =>
   !(x.op == 56 && decide ((i : Int) < ((n.kids.length - 2 : Nat) : Int)) || (x.op != 56 && x.op != 55 || !(sortS x.op == 4 && okS x t f false))) && (n.kids.take i).all fun y => !(x.op == 55 && y.name.toList == x.name.toList)) false () (fun g i hi => ?_) (fun g => ?_) (by omega) rfl) ?_
    ·have hi' : i < n.kids.length := by omega
     have hx : n.kids[i]? = some n.kids[i] := List.getElem?_eq_getElem hi'
     have hm := List.getElem_mem hi'
     have hs' := NodeA.size_lt hm
     have hbk : n.kids[i].size ≤ big := by unfold big; omega
     have hd : decide ((i : Int) < ((n.kids.length - 1 : Nat) : Int)) = true := by simp; omega
     have e56 : (n.kids[i].op != 56) = !(n.kids[i].op == 56) := rfl
     have e55 : (n.kids[i].op != 55) = !(n.kids[i].op == 55) := rfl
     simp only [hd, if_true, idx_nat, hx, Option.bind_some, ih1 n.kids[i] 4 t f (by omega) (by omega) hbk (NodeA.words_kid hw hm) (by omega), Option.all_some]
     rw [w64s (by omega)]
     refine ob (if (!(n.kids[i].op == 56 && decide ((i : Int) < ((n.kids.length - 2 : Nat) : Int)) || (n.kids[i].op != 56 && n.kids[i].op != 55 || !(sortS n.kids[i].op == 4 && okS n.kids[i] t f false))) && (n.kids.take i).all fun y => !(n.kids[i].op == 55 && y.name.toList == n.kids[i].name.toList)) then .go () else .out (.out false)) ?_ ?_
     ·refine ob (if !(n.kids[i].op == 56 && decide ((i : Int) < ((n.kids.length - 2 : Nat) : Int)) || (n.kids[i].op != 56 && n.kids[i].op != 55 || !(sortS n.kids[i].op == 4 && okS n.kids[i] t f false))) then .go () else .out (.out (.out false))) ?_ ?_
      ·rw [e56, e55]
       cases (n.kids[i].op == 56) <;> cases decide ((i : Int) < ((n.kids.length - 2 : Nat) : Int)) <;> cases (n.kids[i].op == 55) <;> cases (sortS n.kids[i].op == 4 && okS n.kids[i] t f false) <;> rfl
      ·cases (n.kids[i].op == 56 && decide ((i : Int) < ((n.kids.length - 2 : Nat) : Int)) || (n.kids[i].op != 56 && n.kids[i].op != 55 || !(sortS n.kids[i].op == 4 && okS n.kids[i] t f false))) with
       | true => rfl
       | false =>
        simp only [Bool.not_false, if_true, Out.fin_go, Bool.true_and]
        have hti : (n.kids.take i).length = i := by rw [List.length_take]; omega
        refine ob _ (scanG (n.kids.take i).length (fun j => (j : Int)) (fun j => ((n.kids.take i)[j]?).all fun y => !(n.kids[i].op == 55 && y.name.toList == n.kids[i].name.toList)) (.out (.out false)) () (fun g' j hj => ?_) (fun g' => ?_) (by omega) rfl) ?_
        ·have hy : (n.kids.take i)[j]? = some (n.kids.take i)[j] := List.getElem?_eq_getElem hj
         have hy' : n.kids[j]? = some (n.kids.take i)[j] := by rw [← hy, List.getElem?_take, if_pos (by omega)]
         have hd : decide ((j : Int) < (i : Int)) = true := by simp; omega
         simp only [hd, if_true, idx_nat, hy, hy', Option.bind_some, andO, Option.all_some]
         rw [w64s (by omega)]
         cases (n.kids[i].op == 55 && (n.kids.take i)[j].name.toList == n.kids[i].name.toList) <;> rfl
        ·have hd : decide (((n.kids.take i).length : Int) < (i : Int)) = false := by rw [hti]; simp
         simp only [hd, Bool.false_eq_true, if_false]
        ·rw [range_all]
         cases ((n.kids.take i).all fun y => !(n.kids[i].op == 55 && y.name.toList == n.kids[i].name.toList)) <;> rfl
     ·cases (!(n.kids[i].op == 56 && decide ((i : Int) < ((n.kids.length - 2 : Nat) : Int)) || (n.kids[i].op != 56 && n.kids[i].op != 55 || !(sortS n.kids[i].op == 4 && okS n.kids[i] t f false))) && (n.kids.take i).all fun y => !(n.kids[i].op == 55 && y.name.toList == n.kids[i].name.toList)) <;> rfl
    ·have hd : decide (((n.kids.length - 1 : Nat) : Int) < ((n.kids.length - 1 : Nat) : Int)) = false := by simp
     simp only [hd, Bool.false_eq_true, if_false]
    ·cases ((List.range (n.kids.length - 1)).all fun i => (n.kids[i]?).all fun x =>
   !(x.op == 56 && decide ((i : Int) < ((n.kids.length - 2 : Nat) : Int)) || (x.op != 56 && x.op != 55 || !(sortS x.op == 4 && okS x t f false))) && (n.kids.take i).all fun y => !(x.op == 55 && y.name.toList == x.name.toList)) <;> rfl
   ·have hd : decide ((n.kids.length : Int) < 2) = true := by simp; omega
    rw [hd, decide_eq_false h2]; rfl
end Go.Proofs.YtafipfdohicfbaaGreatDoor
namespace Go.Proofs.YtafipfdohicfbaaGreatDoor
open Go Go.Iso Go.Proofs
set_option linter.unusedSimpArgs false
set_option linter.unusedVariables false
set_option maxRecDepth 100000
/-! ### Check -/
def checkS (n : NodeA) (s : Int) : Int :=
 if decide (s < 1) || decide (3 < s) then 1 else if decide ((n.size : Int) ≤ 4000) && decide ((n.lev : Int) ≤ 60) then (if sortS n.op != s then 80 else if !okS n false false false then 3 else 0) else 2
theorem tree_Check_eq {K : Nat} {n : NodeA} {s : Int} (hK : 12 < K) (hK2 : 2 * n.size ≤ K) (hb : n.size ≤ big) : tree_Check K n s = some (checkS n s) := by
 unfold tree_Check checkS
 simp only [orO, Option.bind_some]
 cases hs : (decide (s < 1) || decide (3 < s)) with
 | true => rfl
 | false =>
  simp only [Bool.false_eq_true, if_false, Option.bind_some, Out.fin_go]
  obtain ⟨r, hr, hw⟩ := tree_within_eq (show n.size ≤ K by omega) hb
  rw [hr]
  simp only [Option.bind_some]
  unfold Within at hw
  by_cases hc : (n.size : Int) ≤ 4000 ∧ (n.lev : Int) ≤ 60
  ·rw [if_pos hc] at hw
   subst hw
   rw [decide_eq_true hc.1, decide_eq_true hc.2]
   simp only [Bool.not_true, Bool.false_eq_true, if_false, tree_Sort_eq, Option.bind_some, Bool.and_self, if_true]
   by_cases h2 : sortS n.op = s
   ·have e : (sortS n.op != s) = false := by simp [h2]
    have h0 : sortS n.op ≠ 0 := by rw [h2]; intro hz; subst hz; revert hs; decide
    rw [e]
    simp only [Bool.false_eq_true, if_false]
    have : tree_formed K n (Tree_placeA.mk false false false) = some (okS n false false false) := formed_iter hK K n ⟨false, false, false⟩ (by omega) (by omega) hb h0
    rw [this]
    simp only [Option.bind_some]
    cases okS n false false false <;> rfl
   ·have e : (sortS n.op != s) = true := by simp [h2]
    rw [e]; rfl
  ·rw [if_neg hc] at hw
   rw [hw]
   have : (decide ((n.size : Int) ≤ 4000) && decide ((n.lev : Int) ≤ 60)) = false := by
    rw [Bool.and_eq_false_iff, decide_eq_false_iff_not, decide_eq_false_iff_not]
    by_cases h1 : (n.size : Int) ≤ 4000
    ·exact .inr fun h2 => hc ⟨h1, h2⟩
    ·exact .inl h1
   rw [this]; rfl
theorem r08_well_eq {K : Nat} {n : NodeA} {s : Int} (hK : 12 < K) (hK2 : 2 * n.size ≤ K) (hb : n.size ≤ big) (hw : n.words) (hs : s ≠ 0) : r08_well K n s false false = some (sortS n.op == s && okS n false false false) :=
 (well_iter hK K).1 n s false false hK2 hK2 hb hw hs
theorem r08_Check_eq {K : Nat} {n : NodeA} {s : Int} (hK : 12 < K) (hK2 : 2 * n.size ≤ K) (hb : n.size ≤ big) (hw : n.words) : r08_Check K n s = some (checkS n s) := by
 unfold r08_Check checkS
 simp only [orO, Option.bind_some]
 cases hs : (decide (s < 1) || decide (3 < s)) with
 | true => rfl
 | false =>
  simp only [Bool.false_eq_true, if_false, r08_Size_eq (show n.size ≤ K by omega) hb, r08_Levels_eq (show n.size ≤ K by omega) hb, Option.bind_some, orO]
  by_cases hc : (n.size : Int) ≤ 4000 ∧ (n.lev : Int) ≤ 60
  ·have e1 : decide ((4000 : Int) < (n.size : Int)) = false := by simp; omega
   have e2 : decide ((60 : Int) < (n.lev : Int)) = false := by simp; omega
   rw [e1, e2, decide_eq_true hc.1, decide_eq_true hc.2]
   simp only [Bool.or_self, Bool.false_eq_true, if_false, r08_Sort_eq, Option.bind_some, Bool.and_self, if_true]
   by_cases h2 : sortS n.op = s
   ·have e : (sortS n.op != s) = false := by simp [h2]
    have e' : (sortS n.op == s) = true := by simp [h2]
    have h0 : s ≠ 0 := by intro hz; subst hz; revert hs; decide
    rw [e]
    simp only [Bool.false_eq_true, if_false, r08_well_eq hK hK2 hb hw h0, Option.bind_some, e', Bool.true_and]
    cases okS n false false false <;> rfl
   ·have e : (sortS n.op != s) = true := by simp [h2]
    rw [e]; rfl
  ·have : (decide ((n.size : Int) ≤ 4000) && decide ((n.lev : Int) ≤ 60)) = false := by
    rw [Bool.and_eq_false_iff, decide_eq_false_iff_not, decide_eq_false_iff_not]
    by_cases h1 : (n.size : Int) ≤ 4000
    ·exact .inr fun h2 => hc ⟨h1, h2⟩
    ·exact .inl h1
   have e : (decide ((4000 : Int) < (n.size : Int)) || decide ((60 : Int) < (n.lev : Int))) = true := by
    rw [Bool.or_eq_true, decide_eq_true_eq, decide_eq_true_eq]
    by_cases h1 : (n.size : Int) ≤ 4000
    ·exact .inr (by have : ¬ (n.lev : Int) ≤ 60 := fun h2 => hc ⟨h1, h2⟩; omega)
    ·exact .inl (by omega)
   rw [this, e]; rfl
/-! ### Nodes -/
def Fine (n : NodeA) : Prop := ∃ d fd fl, okS n d fd fl = true
theorem fine_kid {n k : NodeA} (h : Fine n) (hk : k ∈ n.kids) : Fine k := by
 obtain ⟨d, fd, fl, h⟩ := h
 rw [okS_eq] at h
 simp only [Bool.and_eq_true, List.all_eq_true] at h
 exact ⟨_, _, _, h.2.2.2.2.1 k hk⟩
end Go.Proofs.YtafipfdohicfbaaGreatDoor
namespace Go.Proofs.YtafipfdohicfbaaGreatDoor
open Go Go.Iso Go.Proofs
set_option linter.unusedSimpArgs false
set_option linter.unusedVariables false
set_option maxRecDepth 100000
theorem eqB {a b : ByteArray} : (a.toList == b.toList) = true ↔ a = b := by
 rw [beq_iff_eq]; exact ⟨fun h => toList_inj h, fun h => by rw [h]⟩
theorem lt_tn {i n : Nat} (h : i < n) : decide ((i : Int) < (n : Int)) = true := decide_eq_true (by omega)
theorem lt_fn {i n : Nat} (h : n ≤ i) : decide ((i : Int) < (n : Int)) = false := decide_eq_false (by omega)
def Few (r : RatA) : Prop := r.num.length ≤ 100 ∧ r.den.length ≤ 100
theorem natS_few {r : RatA} (h : natS r = true) : Few r := by
 unfold natS at h
 simp only [Bool.and_eq_true, decide_eq_true_eq] at h
 have hd : r.den = [1] := eq_of_beq h.1.1.2
 exact ⟨by omega, by rw [hd]; simp⟩
theorem fine_few {n : NodeA} (h : Fine n) : Few n.num := by
 obtain ⟨d, fd, fl, h⟩ := h
 rw [okS_eq] at h
 simp only [Bool.and_eq_true] at h
 have h := h.1
 unfold numC at h
 split at h
 ·exact natS_few h
 ·simp only [Bool.not_eq_true', Bool.or_eq_false_iff, decide_eq_false_iff_not] at h
  exact ⟨by omega, by omega⟩
def FewN : NodeA → Prop
 | .mk _ _ r ks => Few r ∧ ks.length ≤ big ∧ ∀ k (h : k ∈ ks), FewN k
termination_by n => SizeOf.sizeOf n
decreasing_by exact NodeA.size_kid h
theorem FewN_mk {o : Int} {m : ByteArray} {r : RatA} {ks : List NodeA} : FewN (.mk o m r ks) = (Few r ∧ ks.length ≤ big ∧ ∀ k ∈ ks, FewN k) := by rw [FewN]
theorem FewN_num {n : NodeA} (h : FewN n) : Few n.num := by cases n; rw [FewN_mk] at h; exact h.1
theorem FewN_kid {n k : NodeA} (h : FewN n) (hk : k ∈ n.kids) : FewN k := by cases n; rw [FewN_mk] at h; exact h.2.2 k hk
theorem fine_fewN : ∀ n : NodeA, Fine n → n.size ≤ big → FewN n := NodeA.ind fun n ih => by
 intro h hb
 have h1 := fine_few h
 have h2 : ∀ k ∈ n.kids, FewN k := fun k hk => ih k hk (fine_kid h hk) (by have := NodeA.size_lt hk; omega)
 have h3 := n.kids_lt
 cases n with | mk o m r ks => rw [FewN_mk]; exact ⟨h1, by simp only [NodeA.kids_mk] at h3; omega, h2⟩
end Go.Proofs.YtafipfdohicfbaaGreatDoor
namespace Go.Proofs.YtafipfdohicfbaaGreatDoor
open Go Go.Iso Go.Proofs
set_option linter.unusedSimpArgs false
set_option linter.unusedVariables false
set_option maxRecDepth 100000
/-! ### Comparing -/
theorem tree_less_ne {K : Nat} {b : Bool} : ∃ z, tree_less K b = some z ∧ z ≠ 0 := by
 unfold tree_less; cases b
 ·exact ⟨1, rfl, by omega⟩
 ·exact ⟨-1, rfl, by omega⟩
def WPost (l m : List Int) (o : Out Unit Int) : Prop := (o = .go () ∧ l = m) ∨ ∃ z, o = .out z ∧ z ≠ 0 ∧ l ≠ m
theorem words_loop {l m : List Int} {K : Nat} (hlen : l.length = m.length) (hl : l.length ≤ 100) (hK : 100 < K) {f : (Int → Option (Out Unit Int)) → Int → Option (Out Unit Int)}
  (h1 : ∀ g (i : Nat) x y, l[i]? = some x → m[i]? = some y → if x = y then f g (i : Int) = g (IntKind.wrap .i64 ((i : Int) - 1)) else ∃ z, f g (i : Int) = some (.out z) ∧ z ≠ 0)
  (h2 : ∀ g, f g (-1) = some (.go ())) : ∃ o, iter K f (IntKind.wrap .i64 ((l.length : Int) - 1)) = some o ∧ WPost l m o := by
 rw [w64 (by omega) (by omega)]
 have := loopE (J := fun i (s : Int) => s = (l.length : Int) - 1 - (i : Int) ∧ l.drop (l.length - i) = m.drop (l.length - i)) (Post := fun _ _ o => WPost l m o) (f := f) l.length
  (fun g i s hi hj hg => by
   obtain ⟨rfl, hd⟩ := hj
   have ez : (l.length : Int) - 1 - (i : Int) = ((l.length - 1 - i : Nat) : Int) := by omega
   have hx : l[l.length - 1 - i]? = some l[l.length - 1 - i] := List.getElem?_eq_getElem (by omega)
   have hy : m[l.length - 1 - i]? = some m[l.length - 1 - i] := List.getElem?_eq_getElem (by omega)
   have h := h1 g _ _ _ hx hy
   rw [ez]
   split at h
   ·next he =>
    rw [h]
    refine hg _ ⟨?_, ?_⟩
    ·rw [w64 (by omega) (by omega)]; omega
    ·have e : l.length - (i + 1) + 1 = l.length - i := by omega
     rw [List.drop_eq_getElem_cons (show l.length - (i + 1) < l.length by omega), List.drop_eq_getElem_cons (show l.length - (i + 1) < m.length by omega), e, hd]
     have e2 : l.length - (i + 1) = l.length - 1 - i := by omega
     simp only [e2, he]
   ·next he =>
    obtain ⟨z, hz, hn⟩ := h
    exact ⟨_, hz, .inr ⟨z, rfl, hn, fun e => he (by subst e; rfl)⟩⟩)
  (fun g s hj => by
   obtain ⟨rfl, hd⟩ := hj
   have e : (l.length : Int) - 1 - (l.length : Int) = -1 := by omega
   rw [e, h2]
   refine ⟨_, rfl, .inl ⟨rfl, ?_⟩⟩
   simpa using hd) (K := K) 0 ((l.length : Int) - 1) ⟨by omega, by simp [hlen]⟩ (by omega) (by omega)
 exact this
theorem words_len {l m : List Int} : ((l.length : Int) != (m.length : Int)) = true → l ≠ m := fun h e => by subst e; simp at h
theorem tree_words_ex {K : Nat} {l m : List Int} (hf : l.length ≤ 100 ∨ m.length ≤ 100) (hK : 100 < K) : ∃ z, tree_words K l m = some z ∧ (z = 0 ↔ l = m) := by
 unfold tree_words
 cases hl : ((l.length : Int) != (m.length : Int)) with
 | true =>
  obtain ⟨z, hz, hn⟩ := tree_less_ne (K := K) (b := decide ((l.length : Int) < (m.length : Int)))
  rw [hz]
  exact ⟨z, rfl, fun h => absurd h hn, fun h => absurd h (words_len hl)⟩
 | false =>
  have hlen : l.length = m.length := by simp at hl; omega
  simp only [Bool.false_eq_true, if_false]
  obtain ⟨o, ho, hp⟩ := words_loop (l := l) (m := m) (K := K) hlen (by omega) hK (f := fun again i4_0 =>
   if (decide ((0 : Int) ≤ i4_0)) then
    (idx l i4_0).bind fun x9 =>
    (idx m i4_0).bind fun x11 =>
    if (x9 != x11) then
     (tree_less K (decide (x9 < x11))).bind fun r14 =>
     outM (
      some r14)
    else
     again (IntKind.wrap .i64 (i4_0 - (1 : Int)))
   else
    some (.go ())) (fun g i x y hx hy => by
    have hd : decide ((0 : Int) ≤ (i : Int)) = true := decide_eq_true (by omega)
    simp only [hd, if_true, idx_nat, hx, hy, Option.bind_some]
    split
    ·next he => subst he; simp
    ·next he =>
     have e : (x != y) = true := by simpa using he
     obtain ⟨z, hz, hn⟩ := tree_less_ne (K := K) (b := decide (x < y))
     rw [e, hz]
     exact ⟨z, rfl, hn⟩) (fun g => rfl)
  rw [ho]
  rcases hp with ⟨rfl, he⟩ | ⟨z, rfl, hn, he⟩
  ·exact ⟨0, rfl, fun _ => he, fun _ => rfl⟩
  ·exact ⟨z, rfl, fun h => absurd h hn, fun h => absurd h he⟩
theorem r08_words_ex {K : Nat} {l m : List Int} (hf : l.length ≤ 100 ∨ m.length ≤ 100) (hK : 100 < K) : ∃ z, r08_words K l m = some z ∧ (z = 0 ↔ l = m) := by
 unfold r08_words
 cases hl : ((l.length : Int) != (m.length : Int)) with
 | true =>
  simp only [if_true]
  by_cases h : (l.length : Int) < (m.length : Int)
  ·rw [decide_eq_true h]; exact ⟨-1, rfl, fun h => by omega, fun h => absurd h (words_len hl)⟩
  ·rw [decide_eq_false h]; exact ⟨1, rfl, fun h => by omega, fun h => absurd h (words_len hl)⟩
 | false =>
  have hlen : l.length = m.length := by simp at hl; omega
  simp only [Bool.false_eq_true, if_false]
  obtain ⟨o, ho, hp⟩ := words_loop (l := l) (m := m) (K := K) hlen (by omega) hK (f := fun again i3_0 =>
   if (decide ((0 : Int) ≤ i3_0)) then
    (idx l i3_0).bind fun x8 =>
    (idx m i3_0).bind fun x10 =>
    if (x8 != x10) then
     if (decide (x8 < x10)) then
      outM (
       some (-1 : Int))
     else
      outM (
       some (1 : Int))
    else
     again (IntKind.wrap .i64 (i3_0 - (1 : Int)))
   else
    some (.go ())) (fun g i x y hx hy => by
    have hd : decide ((0 : Int) ≤ (i : Int)) = true := decide_eq_true (by omega)
    simp only [hd, if_true, idx_nat, hx, hy, Option.bind_some]
    split
    ·next he => subst he; simp
    ·next he =>
     have e : (x != y) = true := by simpa using he
     rw [e]
     by_cases h : x < y
     ·rw [decide_eq_true h]; exact ⟨-1, rfl, by omega⟩
     ·rw [decide_eq_false h]; exact ⟨1, rfl, by omega⟩) (fun g => rfl)
  rw [ho]
  rcases hp with ⟨rfl, he⟩ | ⟨z, rfl, hn, he⟩
  ·exact ⟨0, rfl, fun _ => he, fun _ => rfl⟩
  ·exact ⟨z, rfl, fun h => absurd h hn, fun h => absurd h he⟩
theorem node_ext {a b : NodeA} (h1 : a.op = b.op) (h2 : a.name = b.name) (h3 : a.num.neg = b.num.neg) (h4 : a.num.num = b.num.num) (h5 : a.num.den = b.num.den) (h6 : a.kids = b.kids) : a = b := by
 obtain ⟨o, m, ⟨x, y, z⟩, ks⟩ := a
 obtain ⟨o', m', ⟨x', y', z'⟩, ks'⟩ := b
 simp only [NodeA.op_mk, NodeA.name_mk, NodeA.num_mk, NodeA.kids_mk] at h1 h2 h3 h4 h5 h6
 subst h1 h2 h3 h4 h5 h6; rfl
def KPost (ks ls : List NodeA) (o : Out Unit Int) : Prop := (o = .go () ∧ ks = ls) ∨ ∃ z, o = .out z ∧ z ≠ 0 ∧ ks ≠ ls
theorem kids_loop {ks ls : List NodeA} {K : Nat} (hlen : ks.length = ls.length) (hl : ks.length < K) (hb : ks.length ≤ big) {S : NodeA × NodeA → Option Int} (hS : ∀ (i : Nat) x y, ks[i]? = some x → ls[i]? = some y → ∃ z, S (x, y) = some z ∧ (z = 0 ↔ x = y)) :
  ∃ o, iter K (fun (again : Int → Option (Out Unit Int)) i19_0 =>
   if (decide (i19_0 < (ks.length : Int))) then
    (idx ks i19_0).bind fun x24 =>
    (idx ls i19_0).bind fun x26 =>
    (S (x24, x26)).bind fun r28 =>
    if (r28 != (0 : Int)) then
     outM (
      some r28)
    else
     again (IntKind.wrap .i64 (i19_0 + (1 : Int)))
   else
    some (.go ())) (0 : Int) = some o ∧ KPost ks ls o := by
 refine loopE (J := fun i (s : Int) => s = (i : Int) ∧ ks.take i = ls.take i) (Post := fun _ _ o => KPost ks ls o) ks.length
  (fun g i s hi hj hg => ?_) (fun g s hj => ?_) 0 0 ⟨rfl, by simp⟩ (by omega) (by omega)
 ·obtain ⟨rfl, ht⟩ := hj
  have hx : ks[i]? = some ks[i] := List.getElem?_eq_getElem hi
  have hy : ls[i]? = some (ls[i]'(by omega)) := List.getElem?_eq_getElem (by omega)
  obtain ⟨z, hz, he⟩ := hS i _ _ hx hy
  simp only [lt_tn hi, if_true, idx_nat, hx, hy, Option.bind_some, hz]
  by_cases h0 : z = 0
  ·subst h0
   have e := he.1 rfl
   simp only [bne_self_eq_false, Bool.false_eq_true, if_false]
   unfold big at hb
   rw [w64s (by omega)]
   exact hg _ ⟨rfl, by rw [List.take_add_one, List.take_add_one, ht, hx, hy, e]⟩
  ·have e : (z != 0) = true := by simpa using h0
   rw [e]
   refine ⟨_, rfl, .inr ⟨z, rfl, h0, fun e => h0 (he.2 ?_)⟩⟩
   subst e; rfl
 ·obtain ⟨rfl, ht⟩ := hj
  simp only [lt_fn (Nat.le_refl ks.length), Bool.false_eq_true, if_false]
  exact ⟨_, rfl, .inl ⟨rfl, by rw [List.take_length, hlen, List.take_length] at ht; exact ht⟩⟩
theorem num_few {a b : NodeA} (h : FewN a ∨ FewN b) : (a.num.num.length ≤ 100 ∨ b.num.num.length ≤ 100) ∧ (a.num.den.length ≤ 100 ∨ b.num.den.length ≤ 100) := by
 rcases h with h | h
 ·exact ⟨.inl (FewN_num h).1, .inl (FewN_num h).2⟩
 ·exact ⟨.inr (FewN_num h).1, .inr (FewN_num h).2⟩
theorem tree_cmp_ex {K : Nat} (hK2 : 100 < K) : ∀ (a b : NodeA) (j : Nat), (FewN a ∨ FewN b) → a.size ≤ j → a.size ≤ K → a.size ≤ big → ∃ z, iter j (fun self q => tree_Compare_body K self q.1 q.2) (a, b) = some z ∧ (z = 0 ↔ a = b) := by
 refine NodeA.ind fun a ih => ?_
 intro b j hf hj hK hb
 have hp := a.size_pos
 have hkl := a.kids_lt
 obtain ⟨j, rfl⟩ : ∃ i, j = i + 1 := ⟨j - 1, by omega⟩
 rw [iter_succ]
 have ih' : ∀ (i : Nat) x y, a.kids[i]? = some x → b.kids[i]? = some y → ∃ z, iter j (fun self q => tree_Compare_body K self q.1 q.2) (x, y) = some z ∧ (z = 0 ↔ x = y) := fun i x y hx hy => by
  have h1 := List.mem_of_getElem? hx
  have h2 := List.mem_of_getElem? hy
  have := NodeA.size_lt h1
  exact ih x h1 y j (hf.imp (fun h => FewN_kid h h1) fun h => FewN_kid h h2) (by omega) (by omega) (by omega)
 generalize iter j (fun self q => tree_Compare_body K self q.1 q.2) = S at ih' ⊢
 show ∃ z, tree_Compare_body K S a b = some z ∧ _
 unfold tree_Compare_body
 cases h1 : (a.op != b.op) with
 | true =>
  obtain ⟨z, hz, hn⟩ := tree_less_ne (K := K) (b := decide (a.op < b.op))
  rw [hz]; exact ⟨z, rfl, fun h => absurd h hn, fun h => by subst h; simp at h1⟩
 | false =>
  simp only [Bool.false_eq_true, if_false]
  cases h2 : (!(a.name.toList == b.name.toList)) with
  | true =>
   obtain ⟨z, hz, hn⟩ := tree_less_ne (K := K) (b := Op.bytesLess a.name.toList b.name.toList)
   simp only [if_true, hz]; exact ⟨z, rfl, fun h => absurd h hn, fun h => by subst h; simp at h2⟩
  | false =>
   simp only [Bool.false_eq_true, if_false]
   cases h3 : (!(a.num.neg == b.num.neg)) with
   | true =>
    obtain ⟨z, hz, hn⟩ := tree_less_ne (K := K) (b := b.num.neg)
    simp only [if_true, hz]; exact ⟨z, rfl, fun h => absurd h hn, fun h => by subst h; simp at h3⟩
   | false =>
    simp only [Bool.false_eq_true, if_false]
    obtain ⟨z, hz, he⟩ := tree_words_ex (K := K) (num_few hf).1 hK2
    rw [hz, Option.bind_some]
    cases h4 : (z != 0) with
    | true =>
     have hn : z ≠ 0 := by simpa using h4
     simp only [if_true]; exact ⟨z, rfl, fun h => absurd h hn, fun h => absurd (he.2 (by rw [h])) hn⟩
    | false =>
     have e4 := he.1 (by simpa using h4)
     simp only [Bool.false_eq_true, if_false]
     obtain ⟨y, hy, hd⟩ := tree_words_ex (K := K) (num_few hf).2 hK2
     rw [hy, Option.bind_some]
     cases h5 : (y != 0) with
     | true =>
      have hn : y ≠ 0 := by simpa using h5
      simp only [if_true]; exact ⟨y, rfl, fun h => absurd h hn, fun h => absurd (hd.2 (by rw [h])) hn⟩
     | false =>
      have e5 := hd.1 (by simpa using h5)
      simp only [Bool.false_eq_true, if_false]
      cases h6 : ((a.kids.length : Int) != (b.kids.length : Int)) with
      | true =>
       obtain ⟨z, hz, hn⟩ := tree_less_ne (K := K) (b := decide ((a.kids.length : Int) < (b.kids.length : Int)))
       simp only [if_true, hz]; exact ⟨z, rfl, fun h => absurd h hn, fun h => by subst h; simp at h6⟩
      | false =>
       simp only [Bool.false_eq_true, if_false]
       obtain ⟨o, ho, hp⟩ := kids_loop (ks := a.kids) (ls := b.kids) (K := K) (S := S) (by simp at h6; omega) (by omega) (by omega) ih'
       rw [ho, Option.bind_some]
       rcases hp with ⟨rfl, he⟩ | ⟨z, rfl, hn, he⟩
       ·refine ⟨0, rfl, fun _ => node_ext (by simpa using h1) (eqB.1 (by simpa using h2)) (by simpa using h3) e4 e5 he, fun _ => rfl⟩
       ·exact ⟨z, rfl, fun h => absurd h hn, fun h => absurd (by rw [h]) he⟩
theorem r08_less_ex {K : Nat} {x y : Int} : ∃ z, r08_less K x y = some z ∧ (z = 0 ↔ x = y) := by
 unfold r08_less
 by_cases h : x < y
 ·rw [decide_eq_true h]; exact ⟨-1, rfl, by omega⟩
 ·by_cases h2 : y < x
  ·rw [decide_eq_false h, decide_eq_true h2]; exact ⟨1, rfl, by omega⟩
  ·rw [decide_eq_false h, decide_eq_false h2]; exact ⟨0, rfl, by omega⟩
theorem r08_cmp_ex {K : Nat} (hK2 : 100 < K) : ∀ (a b : NodeA) (j : Nat), (FewN a ∨ FewN b) → a.size ≤ j → a.size ≤ K → a.size ≤ big → ∃ z, iter j (fun self q => r08_Compare_body K self q.1 q.2) (a, b) = some z ∧ (z = 0 ↔ a = b) := by
 refine NodeA.ind fun a ih => ?_
 intro b j hf hj hK hb
 have hp := a.size_pos
 have hkl := a.kids_lt
 obtain ⟨j, rfl⟩ : ∃ i, j = i + 1 := ⟨j - 1, by omega⟩
 rw [iter_succ]
 have ih' : ∀ (i : Nat) x y, a.kids[i]? = some x → b.kids[i]? = some y → ∃ z, iter j (fun self q => r08_Compare_body K self q.1 q.2) (x, y) = some z ∧ (z = 0 ↔ x = y) := fun i x y hx hy => by
  have h1 := List.mem_of_getElem? hx
  have h2 := List.mem_of_getElem? hy
  have := NodeA.size_lt h1
  exact ih x h1 y j (hf.imp (fun h => FewN_kid h h1) fun h => FewN_kid h h2) (by omega) (by omega) (by omega)
 generalize iter j (fun self q => r08_Compare_body K self q.1 q.2) = S at ih' ⊢
 show ∃ z, r08_Compare_body K S a b = some z ∧ _
 unfold r08_Compare_body
 obtain ⟨z1, hz1, he1⟩ := r08_less_ex (K := K) (x := a.op) (y := b.op)
 rw [hz1, Option.bind_some]
 cases h1 : (z1 != 0) with
 | true =>
  have hn : z1 ≠ 0 := by simpa using h1
  simp only [if_true]; exact ⟨z1, rfl, fun h => absurd h hn, fun h => absurd (he1.2 (by rw [h])) hn⟩
 | false =>
  have e1 := he1.1 (by simpa using h1)
  simp only [Bool.false_eq_true, if_false]
  cases h2 : (!(a.name.toList == b.name.toList)) with
  | true =>
   have hne : a ≠ b := fun h => by subst h; simp at h2
   simp only [if_true]
   cases Op.bytesLess a.name.toList b.name.toList
   ·exact ⟨1, rfl, by omega, fun h => absurd h hne⟩
   ·exact ⟨-1, rfl, by omega, fun h => absurd h hne⟩
  | false =>
   simp only [Bool.false_eq_true, if_false]
   cases h3 : (!(a.num.neg == b.num.neg)) with
   | true =>
    have hne : a ≠ b := fun h => by subst h; simp at h3
    simp only [if_true]
    cases b.num.neg
    ·exact ⟨1, rfl, by omega, fun h => absurd h hne⟩
    ·exact ⟨-1, rfl, by omega, fun h => absurd h hne⟩
   | false =>
    simp only [Bool.false_eq_true, if_false]
    obtain ⟨z, hz, he⟩ := r08_words_ex (K := K) (num_few hf).1 hK2
    rw [hz, Option.bind_some]
    cases h4 : (z != 0) with
    | true =>
     have hn : z ≠ 0 := by simpa using h4
     simp only [if_true]; exact ⟨z, rfl, fun h => absurd h hn, fun h => absurd (he.2 (by rw [h])) hn⟩
    | false =>
     have e4 := he.1 (by simpa using h4)
     simp only [Bool.false_eq_true, if_false]
     obtain ⟨y, hy, hd⟩ := r08_words_ex (K := K) (num_few hf).2 hK2
     rw [hy, Option.bind_some]
     cases h5 : (y != 0) with
     | true =>
      have hn : y ≠ 0 := by simpa using h5
      simp only [if_true]; exact ⟨y, rfl, fun h => absurd h hn, fun h => absurd (hd.2 (by rw [h])) hn⟩
     | false =>
      have e5 := hd.1 (by simpa using h5)
      simp only [Bool.false_eq_true, if_false]
      obtain ⟨u, hu, he6⟩ := r08_less_ex (K := K) (x := (a.kids.length : Int)) (y := (b.kids.length : Int))
      rw [hu, Option.bind_some]
      cases h6 : (u != 0) with
      | true =>
       have hn : u ≠ 0 := by simpa using h6
       simp only [if_true]; exact ⟨u, rfl, fun h => absurd h hn, fun h => absurd (he6.2 (by rw [h])) hn⟩
      | false =>
       have e6 := he6.1 (by simpa using h6)
       simp only [Bool.false_eq_true, if_false]
       obtain ⟨o, ho, hp⟩ := kids_loop (ks := a.kids) (ls := b.kids) (K := K) (S := S) (by omega) (by omega) (by omega) ih'
       rw [ho, Option.bind_some]
       rcases hp with ⟨rfl, he⟩ | ⟨z, rfl, hn, he⟩
       ·refine ⟨0, rfl, fun _ => node_ext e1 (eqB.1 (by simpa using h2)) (by simpa using h3) e4 e5 he, fun _ => rfl⟩
       ·exact ⟨z, rfl, fun h => absurd h hn, fun h => absurd (by rw [h]) he⟩
theorem tree_Equal_ex {K : Nat} (hK2 : 100 < K) {a b : NodeA} (hf : FewN a ∨ FewN b) (hK : a.size ≤ K) (hb : a.size ≤ big) : ∃ c, tree_Equal K a b = some c ∧ (c = true ↔ a = b) := by
 obtain ⟨z, hz, he⟩ := tree_cmp_ex hK2 a b K hf hK hK hb
 unfold tree_Equal tree_Compare
 rw [hz, Option.bind_some]
 exact ⟨_, rfl, by simpa using he⟩
theorem r08_Equal_ex {K : Nat} (hK2 : 100 < K) {a b : NodeA} (hf : FewN a ∨ FewN b) (hK : a.size ≤ K) (hb : a.size ≤ big) : ∃ c, r08_Equal K a b = some c ∧ (c = true ↔ a = b) := by
 obtain ⟨z, hz, he⟩ := r08_cmp_ex hK2 a b K hf hK hK hb
 unfold r08_Equal r08_Compare
 rw [hz, Option.bind_some]
 exact ⟨_, rfl, by simpa using he⟩
end Go.Proofs.YtafipfdohicfbaaGreatDoor
namespace Go.Proofs.YtafipfdohicfbaaGreatDoor
open Go Go.Iso Go.Proofs
set_option linter.unusedSimpArgs false
set_option linter.unusedVariables false
set_option maxRecDepth 100000
noncomputable section
open Classical in
/-- The first place of a node in a list. -/
def fi : List NodeA → NodeA → Option Nat
 | [], _ => none
 | x :: r, n => if x = n then some 0 else (fi r n).map (· + 1)
theorem fi_none {l : List NodeA} {n : NodeA} (h : n ∉ l) : fi l n = none := by
 induction l with
 | nil => rfl
 | cons x r ih =>
  have h1 : x ≠ n := fun e => h (by rw [e]; exact List.mem_cons_self ..)
  unfold fi; rw [if_neg h1, ih fun h2 => h (List.mem_cons_of_mem _ h2)]; rfl
theorem fi_some {l : List NodeA} {n : NodeA} (h : n ∈ l) : ∃ i, fi l n = some i ∧ i < l.length := by
 induction l with
 | nil => cases h
 | cons x r ih =>
  unfold fi
  by_cases h1 : x = n
  ·rw [if_pos h1]; exact ⟨0, rfl, by simp⟩
  ·rw [if_neg h1]
   rcases List.mem_cons.1 h with h2 | h2
   ·exact absurd h2.symm h1
   ·obtain ⟨i, h3, h4⟩ := ih h2
    rw [h3]; exact ⟨i + 1, rfl, by simp; omega⟩
theorem find_loop {T R : Type} {l : List NodeA} {n : NodeA} {E : NodeA → Option Bool} (hE : ∀ x ∈ l, ∃ c, E x = some c ∧ (c = true ↔ x = n)) (hl : l.length ≤ 100000) {r : Nat → R} {e : T} {f : (Int → Option (Out T R)) → Int → Option (Out T R)}
  (h1 : ∀ g (i : Nat) x, l[i]? = some x → f g i = (E x).bind fun c => if c then some (.out (r i)) else g (IntKind.wrap .i64 ((i : Int) + 1)))
  (h2 : ∀ g, f g (l.length : Int) = some (.go e)) {K : Nat} (hK : l.length < K) : iter K f 0 = some (match fi l n with | some i => .out (r i) | none => .go e) := by
 have key : ∀ (d i K : Nat), l.length - i = d → i ≤ l.length → d < K → iter K f (i : Int) = some (match fi (l.drop i) n with | some j => .out (r (i + j)) | none => .go e) := by
  intro d
  induction d with
  | zero =>
   intro i K hd hi hK
   obtain ⟨k, rfl⟩ : ∃ k, K = k + 1 := ⟨K - 1, by omega⟩
   obtain rfl : i = l.length := by omega
   rw [iter_succ, h2, List.drop_eq_nil_of_le (Nat.le_refl _)]; rfl
  | succ d ih =>
   intro i K hd hi hK
   obtain ⟨k, rfl⟩ : ∃ k, K = k + 1 := ⟨K - 1, by omega⟩
   have hi : i < l.length := by omega
   have hx : l[i]? = some l[i] := List.getElem?_eq_getElem hi
   obtain ⟨c, hc, he⟩ := hE _ (List.getElem_mem hi)
   rw [iter_succ, h1 _ i _ hx, hc, Option.bind_some, List.drop_eq_getElem_cons hi, w64s (by omega)]
   unfold fi
   cases c with
   | true => rw [if_pos rfl, if_pos (he.1 rfl)]; rfl
   | false =>
    have hne : ¬ l[i] = n := fun h => by have := he.2 h; cases this
    rw [if_neg (by simp), if_neg hne, ih (i + 1) k (by omega) (by omega) (by omega)]
    cases fi (l.drop (i + 1)) n with
    | none => rfl
    | some j => simp only [Option.map_some]; congr 3; omega
 have := key l.length 0 K (by simp) (Nat.zero_le _) hK
 simpa using this
def cst (op : Int) : Bool := op == 20 || op == 21
def conn (op : Int) : Bool := op == 28 || (op == 29 || (op == 30 || (op == 31 || op == 32)))
open Classical in
/-- The atoms of a formula behind those of a list. -/
def atomsS : NodeA → List NodeA → List NodeA
 | .mk op m r ks => fun l => if cst op then l else if conn op then ks.attach.foldl (fun l ⟨k, _⟩ => atomsS k l) l else if NodeA.mk op m r ks ∈ l then l else l ++ [NodeA.mk op m r ks]
termination_by n => SizeOf.sizeOf n
decreasing_by exact NodeA.size_kid (by assumption)
open Classical in
theorem atomsS_eq (n : NodeA) (l : List NodeA) : atomsS n l = if cst n.op then l else if conn n.op then n.kids.foldl (fun l k => atomsS k l) l else if n ∈ l then l else l ++ [n] := by
 cases n with | mk op m r ks =>
 rw [atomsS]
 simp only [NodeA.op_mk, NodeA.kids_mk]
 congr 2
 simp
theorem atoms_sub : ∀ (n : NodeA) (l : List NodeA) (x : NodeA), x ∈ l → x ∈ atomsS n l := by
 refine NodeA.ind fun n ih => ?_
 intro l x hx
 rw [atomsS_eq]
 have fold : ∀ (ks : List NodeA), (∀ k ∈ ks, k ∈ n.kids) → ∀ l : List NodeA, x ∈ l → x ∈ ks.foldl (fun l k => atomsS k l) l := by
  intro ks
  induction ks with
  | nil => exact fun _ l h => h
  | cons k ks ih2 => exact fun hk l h => ih2 (fun q hq => hk q (List.mem_cons_of_mem _ hq)) _ (ih k (hk k (List.mem_cons_self ..)) l x h)
 split
 ·exact hx
 ·split
  ·exact fold _ (fun _ h => h) l hx
  ·split
   ·exact hx
   ·exact List.mem_append_left _ hx
theorem fold_sub {x : NodeA} : ∀ (ks l : List NodeA), x ∈ l → x ∈ ks.foldl (fun l k => atomsS k l) l
 | [], l, h => h
 | k :: ks, l, h => fold_sub ks _ (atoms_sub k l x h)
theorem atoms_all {Q : NodeA → Prop} : ∀ (n : NodeA) (l : List NodeA), (∀ x ∈ l, Q x) → (∀ k : NodeA, k.size ≤ n.size → cst k.op = false → conn k.op = false → (∃ p, p = k) → Q k) → ∀ x ∈ atomsS n l, Q x := by
 refine NodeA.ind fun n ih => ?_
 intro l hl hq
 rw [atomsS_eq]
 have fold : ∀ (ks : List NodeA), (∀ k ∈ ks, k ∈ n.kids) → ∀ l : List NodeA, (∀ x ∈ l, Q x) → ∀ x ∈ ks.foldl (fun l k => atomsS k l) l, Q x := by
  intro ks
  induction ks with
  | nil => exact fun _ l h => h
  | cons k ks ih2 =>
   intro hk l h
   have hm := hk k (List.mem_cons_self ..)
   exact ih2 (fun q hq => hk q (List.mem_cons_of_mem _ hq)) _ (ih k hm l h fun j hj => hq j (by have := NodeA.size_lt hm; omega))
 split
 ·exact hl
 ·next h1 =>
  split
  ·exact fold _ (fun _ h => h) l hl
  ·next h2 =>
   split
   ·exact hl
   ·intro x hx
    rcases List.mem_append.1 hx with hx | hx
    ·exact hl x hx
    ·have : x = n := by simpa using hx
     subst this
     exact hq x (Nat.le_refl _) (by simpa using h1) (by simpa using h2) ⟨x, rfl⟩
theorem atoms_len : ∀ (n : NodeA) (l : List NodeA), (atomsS n l).length ≤ l.length + n.size := by
 refine NodeA.ind fun n ih => ?_
 intro l
 have hp := n.size_pos
 rw [atomsS_eq]
 have fold : ∀ (ks : List NodeA), (∀ k ∈ ks, k ∈ n.kids) → ∀ l : List NodeA, (ks.foldl (fun l k => atomsS k l) l).length ≤ l.length + (ks.map NodeA.size).sum := by
  intro ks
  induction ks with
  | nil => intro _ l; simp
  | cons k ks ih2 =>
   intro hk l
   have h1 := ih2 (fun q hq => hk q (List.mem_cons_of_mem _ hq)) (atomsS k l)
   have h2 := ih k (hk k (List.mem_cons_self ..)) l
   simp only [List.foldl_cons, List.map_cons, List.sum_cons]
   omega
 split
 ·omega
 ·split
  ·have h1 := fold n.kids (fun _ h => h) l
   have h2 : n.size = 1 + (n.kids.map NodeA.size).sum := by cases n; rw [NodeA.size_mk]; rfl
   omega
  ·split
   ·omega
   ·simp; omega
def Cov (l : List NodeA) : NodeA → Prop
 | .mk op m r ks => if cst op then True else if conn op then ∀ k (h : k ∈ ks), Cov l k else NodeA.mk op m r ks ∈ l
termination_by n => SizeOf.sizeOf n
decreasing_by exact NodeA.size_kid h
theorem Cov_eq (l : List NodeA) (n : NodeA) : Cov l n = if cst n.op then True else if conn n.op then ∀ k ∈ n.kids, Cov l k else n ∈ l := by
 cases n with | mk op m r ks => rw [Cov]; rfl
theorem Cov_mono : ∀ (n : NodeA) (l l' : List NodeA), (∀ x ∈ l, x ∈ l') → Cov l n → Cov l' n := by
 refine NodeA.ind fun n ih => ?_
 intro l l' hl hc
 rw [Cov_eq] at hc ⊢
 split
 ·trivial
 ·next h1 =>
  rw [if_neg h1] at hc
  split
  ·next h2 => rw [if_pos h2] at hc; exact fun k hk => ih k hk l l' hl (hc k hk)
  ·next h2 => rw [if_neg h2] at hc; exact hl n hc
theorem atoms_cov : ∀ (n : NodeA) (l : List NodeA), Cov (atomsS n l) n := by
 refine NodeA.ind fun n ih => ?_
 intro l
 rw [Cov_eq]
 split
 ·trivial
 ·next h1 =>
  split
  ·next h2 =>
   rw [atomsS_eq, if_neg h1, if_pos h2]
   have fold : ∀ (ks : List NodeA), (∀ k ∈ ks, k ∈ n.kids) → ∀ l : List NodeA, ∀ k ∈ ks, Cov (ks.foldl (fun l k => atomsS k l) l) k := by
    intro ks
    induction ks with
    | nil => intro _ l k hk; cases hk
    | cons q ks ih2 =>
     intro hk l k hkm
     rcases List.mem_cons.1 hkm with rfl | hkm
     ·exact Cov_mono k _ _ (fun x hx => fold_sub ks _ hx) (ih k (hk k (List.mem_cons_self ..)) l)
     ·exact ih2 (fun q hq => hk q (List.mem_cons_of_mem _ hq)) _ k hkm
   exact fold n.kids (fun _ h => h) l
  ·next h2 =>
   rw [atomsS_eq, if_neg h1, if_neg h2]
   split
   ·assumption
   ·exact List.mem_append_right _ (List.mem_singleton.2 rfl)
def atomsG (K : Nat) (E : NodeA → NodeA → Option Bool) (A : List NodeA → NodeA → Option (List NodeA)) (self : NodeA → Option (List NodeA) → Option (Option (List NodeA))) (p0 : NodeA) (p1 : Option (List NodeA)) : Option (Option (List NodeA)) :=
 if cst p0.op then some p1 else if conn p0.op then
  iter (S := Int × (Option (List NodeA))) (R := (Option (List NodeA))) K (fun again (i14_0, i14_1) =>
     if (decide (i14_0 < (p0.kids.length : Int))) then
      (idx p0.kids i14_0).bind fun x19 =>
      (self x19 i14_1).bind fun r21 =>
      again (IntKind.wrap .i64 (i14_0 + (1 : Int)), r21)
     else
      some i14_1) ((0 : Int), p1)
 else
 ((iter (S := Int) (R := Out Unit _) K (fun again i23_0 =>
  if (decide (i23_0 < ((p1.getD []).length : Int))) then
   (idx (p1.getD []) i23_0).bind fun x28 =>
   (E x28 p0).bind fun r30 =>
   if r30 then
    outM (
     some p1)
   else
    again (IntKind.wrap .i64 (i23_0 + (1 : Int)))
  else
   some (.go ())) (0 : Int)) : Option (Out Unit _)).bind (Out.fin fun _ =>
 (A (p1.getD []) p0).bind fun l33 => some (some l33))
theorem outM_go {S R : Type} {o : Option R} {g : S → Option R} : (o.bind fun e => (outM (some e) : Option (Out S R))).bind (Out.fin g) = o := by
 cases o <;> rfl
theorem taut_body {K : Nat} {S : NodeA × Option (List NodeA) → Option (Option (List NodeA))} {n : NodeA} {o : Option (List NodeA)} (hA : (o.getD []).length ≤ 100000) :
  proof_Taut_1_body K S n o = atomsG K (tree_Equal K) (fun l n => some (l ++ [n])) (fun n o => S (n, o)) n o := by
 unfold proof_Taut_1_body atomsG cst conn
 simp only [orO', Option.bind_some]
 cases n.op == 20 || n.op == 21 with
 | true => rfl
 | false =>
  simp only [Bool.false_eq_true, if_false]
  cases n.op == 28 || (n.op == 29 || (n.op == 30 || (n.op == 31 || n.op == 32))) with
  | true => simp only [if_true]; exact outM_go
  | false =>
   simp only [Bool.false_eq_true, if_false, Option.bind_some, Out.fin_go]
   have e : ((appO 104 (o.getD []) [(NodeA.mk (0 : Int) (⟨#[]⟩ : ByteArray) (RatA.mk false [] []) [])]).bind fun l33 => (idx l33 ((o.getD []).length : Int)).bind fun x35 => some (some (l33.set ((o.getD []).length) n))) = some (some (o.getD [] ++ [n])) := by
    refine ob (o.getD [] ++ [NodeA.mk (0 : Int) (⟨#[]⟩ : ByteArray) (RatA.mk false [] []) []]) (by unfold appO; rw [if_pos (by simp; omega)]) ?_
    rw [idx_nat, List.getElem?_append_right (Nat.le_refl _), Nat.sub_self]
    simp
   rw [e]
theorem r20_body {K : Nat} {S : Option (List NodeA) × NodeA → Option (Option (List NodeA))} {n : NodeA} {o : Option (List NodeA)} (hA : (o.getD []).length ≤ 100000) :
  r20_atoms_body K S o n = atomsG K (r08_Equal K) (fun l n => some (l ++ [n])) (fun n o => S (o, n)) n o := by
 unfold r20_atoms_body atomsG cst conn
 simp only [orO', Option.bind_some]
 cases n.op == 20 || n.op == 21 with
 | true => rfl
 | false =>
  simp only [Bool.false_eq_true, if_false]
  cases n.op == 28 || (n.op == 29 || (n.op == 30 || (n.op == 31 || n.op == 32))) with
  | true => simp only [if_true]; exact outM_go
  | false =>
   simp only [Bool.false_eq_true, if_false, Option.bind_some, Out.fin_go]
   have e : ((appO 104 (o.getD []) [n]).bind fun l33 => some (some l33)) = some (some (o.getD [] ++ [n])) :=
    ob (o.getD [] ++ [n]) (by unfold appO; rw [if_pos (by simp; omega)]) rfl
   rw [e]
theorem atomsG_eq {K M : Nat} (hM : M < 100000) (hMK : M < K) {E : NodeA → NodeA → Option Bool} {S : NodeA → Option (List NodeA) → Option (Option (List NodeA))} {n : NodeA} {o : Option (List NodeA)}
  (hE : ∀ a : NodeA, a.size ≤ M → ∃ c, E a n = some c ∧ (c = true ↔ a = n)) (hs : ∀ x ∈ o.getD [], x.size ≤ M) (hn : n.size ≤ M) (hlen : (o.getD []).length + n.size ≤ M)
  (hS : ∀ k ∈ n.kids, ∀ o : Option (List NodeA), (∀ x ∈ o.getD [], x.size ≤ M) → (o.getD []).length + k.size ≤ M → ∃ r, S k o = some r ∧ r.getD [] = atomsS k (o.getD [])) :
  ∃ r, atomsG K E (fun l n => some (l ++ [n])) S n o = some r ∧ r.getD [] = atomsS n (o.getD []) := by
 have hkl := n.kids_lt
 have hp := n.size_pos
 have hsz : n.size = 1 + (n.kids.map NodeA.size).sum := by cases n; rw [NodeA.size_mk]; rfl
 rw [atomsS_eq]
 unfold atomsG
 split
 ·exact ⟨o, rfl, rfl⟩
 ·split
  ·have := loopE (J := fun i (s : Int × Option (List NodeA)) => s.1 = (i : Int) ∧ s.2.getD [] = (n.kids.take i).foldl (fun l k => atomsS k l) (o.getD []) ∧ (∀ x ∈ s.2.getD [], x.size ≤ M) ∧ (s.2.getD []).length ≤ (o.getD []).length + ((n.kids.take i).map NodeA.size).sum)
    (Post := fun _ _ r => r.getD [] = n.kids.foldl (fun l k => atomsS k l) (o.getD [])) (K := K) (f := fun again (x : Int × Option (List NodeA)) =>
     if (decide (x.1 < (n.kids.length : Int))) then
      (idx n.kids x.1).bind fun x19 =>
      (S x19 x.2).bind fun r21 =>
      again (IntKind.wrap .i64 (x.1 + (1 : Int)), r21)
     else some x.2) n.kids.length
    (fun g i s hi hj hg => by
     obtain ⟨i0, s0⟩ := s
     obtain ⟨h1, h2, h3, h4⟩ := hj
     simp only at h1 h2 h3 h4 ⊢
     subst h1
     have hx : n.kids[i]? = some n.kids[i] := List.getElem?_eq_getElem hi
     have hm := List.getElem_mem hi
     have hst := sum_take (f := NodeA.size) hx
     have hle := sum_take_le (f := NodeA.size) (l := n.kids) (i := i + 1)
     obtain ⟨r, hr, he⟩ := hS _ hm s0 h3 (by omega)
     obtain ⟨q, hq, hq2⟩ := hg (((i + 1 : Nat) : Int), r) ⟨rfl, by rw [he, h2, List.take_succ_eq_append_getElem hi, List.foldl_append]; rfl, by rw [he]; exact atoms_all _ _ h3 fun k hk _ _ _ => by have := NodeA.size_lt hm; omega, by
      have h5 : (r.getD []).length ≤ (s0.getD []).length + n.kids[i].size := by rw [he]; exact atoms_len _ _
      simp only
      omega⟩
     refine ⟨q, ?_, hq2⟩
     simp only [lt_tn hi, if_true, idx_nat, hx, Option.bind_some, hr]
     rw [w64s (by omega)]; exact hq)
    (fun g s hj => by
     obtain ⟨i0, s0⟩ := s
     obtain ⟨h1, h2, _⟩ := hj
     simp only at h1 h2 ⊢
     subst h1
     refine ⟨s0, by simp only [lt_fn (Nat.le_refl n.kids.length), Bool.false_eq_true, if_false], by rw [h2, List.take_length]⟩)
    0 ((0 : Int), o) ⟨rfl, rfl, hs, by simp⟩ (Nat.zero_le _) (by omega)
   exact this
  ·rw [find_loop (T := Unit) (R := Option (List NodeA)) (l := o.getD []) (n := n) (E := fun x => E x n) (r := fun _ => o) (e := ()) (fun x hx => hE x (hs x hx)) (by omega) (fun g i x hx => by
     obtain ⟨hlt, rfl⟩ := List.getElem?_eq_some_iff.1 hx
     simp only [lt_tn hlt, if_true, idx_nat, hx, Option.bind_some, outM_eq]) (fun g => by simp only [lt_fn (Nat.le_refl (o.getD []).length), Bool.false_eq_true, if_false]) (by omega), Option.bind_some]
   by_cases h : n ∈ o.getD []
   ·obtain ⟨i, hi, _⟩ := fi_some h
    rw [hi, if_pos h]; exact ⟨o, rfl, rfl⟩
   ·rw [fi_none h, if_neg h]; exact ⟨_, rfl, rfl⟩
theorem taut_atoms {K M : Nat} (hK2 : 100 < K) (hM : M < 100000) (hMK : M < K) (hMb : M ≤ big) : ∀ (n : NodeA) (j : Nat) (o : Option (List NodeA)), FewN n → n.size ≤ j → n.size ≤ M → (∀ x ∈ o.getD [], x.size ≤ M) → (o.getD []).length + n.size ≤ M →
  ∃ r, iter j (fun self q => proof_Taut_1_body K self q.1 q.2) (n, o) = some r ∧ r.getD [] = atomsS n (o.getD []) := by
 refine NodeA.ind fun n ih => ?_
 intro j o hf hj hn hs hl
 have hp := n.size_pos
 obtain ⟨j, rfl⟩ : ∃ i, j = i + 1 := ⟨j - 1, by omega⟩
 rw [iter_succ]
 have ih' : ∀ k ∈ n.kids, ∀ o : Option (List NodeA), (∀ x ∈ o.getD [], x.size ≤ M) → (o.getD []).length + k.size ≤ M → ∃ r, iter j (fun self q => proof_Taut_1_body K self q.1 q.2) (k, o) = some r ∧ r.getD [] = atomsS k (o.getD []) :=
  fun k hk o h1 h2 => ih k hk j o (FewN_kid hf hk) (by have := NodeA.size_lt hk; omega) (by have := NodeA.size_lt hk; omega) h1 h2
 generalize iter j (fun self q => proof_Taut_1_body K self q.1 q.2) = S at ih' ⊢
 simp only
 rw [taut_body (by omega)]
 exact atomsG_eq hM hMK (fun a ha => tree_Equal_ex hK2 (.inr hf) (by omega) (by omega)) hs hn hl ih'
theorem r20_atoms_ex {K M : Nat} (hK2 : 100 < K) (hM : M < 100000) (hMK : M < K) (hMb : M ≤ big) : ∀ (n : NodeA) (j : Nat) (o : Option (List NodeA)), FewN n → n.size ≤ j → n.size ≤ M → (∀ x ∈ o.getD [], x.size ≤ M) → (o.getD []).length + n.size ≤ M →
  ∃ r, iter j (fun self q => r20_atoms_body K self q.1 q.2) (o, n) = some r ∧ r.getD [] = atomsS n (o.getD []) := by
 refine NodeA.ind fun n ih => ?_
 intro j o hf hj hn hs hl
 have hp := n.size_pos
 obtain ⟨j, rfl⟩ : ∃ i, j = i + 1 := ⟨j - 1, by omega⟩
 rw [iter_succ]
 have ih' : ∀ k ∈ n.kids, ∀ o : Option (List NodeA), (∀ x ∈ o.getD [], x.size ≤ M) → (o.getD []).length + k.size ≤ M → ∃ r, iter j (fun self q => r20_atoms_body K self q.1 q.2) (o, k) = some r ∧ r.getD [] = atomsS k (o.getD []) :=
  fun k hk o h1 h2 => ih k hk j o (FewN_kid hf hk) (by have := NodeA.size_lt hk; omega) (by have := NodeA.size_lt hk; omega) h1 h2
 generalize iter j (fun self q => r20_atoms_body K self q.1 q.2) = S at ih' ⊢
 simp only
 rw [r20_body (by omega)]
 exact atomsG_eq hM hMK (fun a ha => r08_Equal_ex hK2 (.inr hf) (by omega) (by omega)) hs hn hl ih'
end
end Go.Proofs.YtafipfdohicfbaaGreatDoor
namespace Go.Proofs.YtafipfdohicfbaaGreatDoor
open Go Go.Iso Go.Proofs
set_option linter.unusedSimpArgs false
set_option linter.unusedVariables false
set_option maxRecDepth 100000
noncomputable section
def numS (l : List NodeA) : NodeA → Proof_booleanA
 | .mk op m r ks => match fi l (.mk op m r ks) with
  | some i => .mk 0 (i : Int) []
  | none => .mk op 0 (ks.attach.map fun ⟨k, _⟩ => numS l k)
termination_by n => SizeOf.sizeOf n
decreasing_by exact NodeA.size_kid (by assumption)
theorem numS_eq (l : List NodeA) (n : NodeA) : numS l n = match fi l n with | some i => .mk 0 (i : Int) [] | none => .mk n.op 0 (n.kids.map (numS l)) := by
 cases n with | mk op m r ks =>
 rw [numS]
 simp only [NodeA.op_mk, NodeA.kids_mk]
 split
 ·rfl
 ·congr 1; simp
theorem numS_some {l : List NodeA} {n : NodeA} {i : Nat} (h : fi l n = some i) : numS l n = .mk 0 (i : Int) [] := by rw [numS_eq, h]
theorem numS_none {l : List NodeA} {n : NodeA} (h : fi l n = none) : numS l n = .mk n.op 0 (n.kids.map (numS l)) := by rw [numS_eq, h]
theorem app_b {l : List Proof_booleanA} {x : Proof_booleanA} (h : l.length ≤ 100000) : appO 40 l [x] = some (l ++ [x]) := by
 unfold appO; rw [if_pos (by simp; omega)]
theorem numbered_iter {K M : Nat} (hK2 : 100 < K) (hM : M < 100000) (hMK : M < K) (hMb : M ≤ big) {l : List NodeA} (hl : l.length ≤ M) (hs : ∀ x ∈ l, x.size ≤ M) : ∀ (n : NodeA) (j : Nat), FewN n → n.size ≤ j → n.size ≤ M →
  iter j (fun self q => proof_numbered_body K self q.1 q.2) (n, l) = some (numS l n) := by
 refine NodeA.ind fun n ih => ?_
 intro j hf hj hn
 have hp := n.size_pos
 have hkl := n.kids_lt
 obtain ⟨j, rfl⟩ : ∃ i, j = i + 1 := ⟨j - 1, by omega⟩
 rw [iter_succ]
 have ih' : ∀ k ∈ n.kids, iter j (fun self q => proof_numbered_body K self q.1 q.2) (k, l) = some (numS l k) :=
  fun k hk => ih k hk j (FewN_kid hf hk) (by have := NodeA.size_lt hk; omega) (by have := NodeA.size_lt hk; omega)
 generalize iter j (fun self q => proof_numbered_body K self q.1 q.2) = S at ih' ⊢
 unfold proof_numbered_body
 simp only
 rw [find_loop (T := Unit) (R := Proof_booleanA) (l := l) (n := n) (E := fun x => tree_Equal K x n) (r := fun i => Proof_booleanA.mk (0 : Int) (i : Int) []) (e := ()) (fun x hx => tree_Equal_ex hK2 (.inr hf) (by have := hs x hx; omega) (by have := hs x hx; omega)) (by omega) (fun g i x hx => by
  obtain ⟨hlt, rfl⟩ := List.getElem?_eq_some_iff.1 hx
  simp only [lt_tn hlt, if_true, idx_nat, hx, Option.bind_some, outM_eq]) (fun g => by simp only [lt_fn (Nat.le_refl l.length), Bool.false_eq_true, if_false]) (by omega), Option.bind_some]
 cases h : fi l n with
 | some i => rw [numS_some h]; rfl
 | none =>
  rw [numS_none h]
  simp only [Out.fin_go]
  refine ob (n.kids.map (numS l)) ?_ rfl
  refine foldG n.kids.length (fun i => (((i : Nat) : Int), (n.kids.take i).map (numS l))) (n.kids.map (numS l)) (fun g i hi => ?_) (fun g => ?_) (by omega) rfl
  ·have hx : n.kids[i]? = some n.kids[i] := List.getElem?_eq_getElem hi
   simp only [lt_tn hi, if_true, idx_nat, hx, Option.bind_some, ih' _ (List.getElem_mem hi)]
   refine ob _ (app_b (by simp; omega)) ?_
   rw [w64s (by omega), List.take_succ_eq_append_getElem hi, List.map_append]; rfl
  ·simp only [lt_fn (Nat.le_refl n.kids.length), Bool.false_eq_true, if_false, List.take_length]
def bitB (bits : Int) (i : Nat) : Bool := bAnd .i64 (bShr .i64 bits (i : Int)) (1 : Int) == (1 : Int)
def opB (op : Int) (a b : Bool) : Bool := if op == 28 then !a else if op == 29 then a && b else if op == 30 then a || b else if op == 31 then !a || b else a == b
def valS (l : List NodeA) (bits : Int) : NodeA → Bool
 | .mk op m r ks => if op == 20 then true else if op == 21 then false else if conn op then opB op ((ks.attach.map fun ⟨k, _⟩ => valS l bits k).getD 0 false) ((ks.attach.map fun ⟨k, _⟩ => valS l bits k).getD 1 false) else
  match fi l (.mk op m r ks) with
  | some i => bitB bits i
  | none => false
termination_by n => SizeOf.sizeOf n
decreasing_by all_goals exact NodeA.size_kid (by assumption)
theorem valS_eq (l : List NodeA) (bits : Int) (n : NodeA) : valS l bits n = if n.op == 20 then true else if n.op == 21 then false else if conn n.op then opB n.op ((n.kids.map (valS l bits)).getD 0 false) ((n.kids.map (valS l bits)).getD 1 false) else
  match fi l n with | some i => bitB bits i | none => false := by
 cases n with | mk op m r ks =>
 rw [valS]
 simp only [NodeA.op_mk, NodeA.kids_mk]
 have e : (ks.attach.map fun x => match x with | ⟨k, _⟩ => valS l bits k) = ks.map (valS l bits) := by simp
 rw [e]
theorem kids_len {n : NodeA} (h : Fine n) : n.kids.length = (sortsC n).length := by
 obtain ⟨d, fd, fl, h⟩ := h
 rw [okS_eq] at h
 simp only [Bool.and_eq_true] at h
 have := congrArg List.length (eq_of_beq h.2.2.2.1)
 simpa using this
theorem conn_cases {op : Int} (h : conn op = true) : op = 28 ∨ op = 29 ∨ op = 30 ∨ op = 31 ∨ op = 32 := by
 unfold conn at h
 simpa using h
theorem conn_kids {n : NodeA} (hf : Fine n) (h : conn n.op = true) : n.kids.length = if n.op == 28 then 1 else 2 := by
 rw [kids_len hf]
 unfold sortsC
 rcases conn_cases h with e | e | e | e | e <;> rw [e] <;> rfl
theorem conn_ne {op : Int} (h : conn op = true) : (op == 20) = false ∧ (op == 21) = false := by
 rcases conn_cases h with rfl | rfl | rfl | rfl | rfl <;> exact ⟨rfl, rfl⟩
theorem len_two {α : Type} {l : List α} (h : l.length = 2) : ∃ a b, l = [a, b] := by
 match l, h with
 | [a, b], _ => exact ⟨a, b, rfl⟩
def connG {α : Type} (S : α → Option Bool) (op : Int) (ks : List α) (E : Option Bool) : Option Bool :=
 if (op == (20 : Int)) then
  some true
 else
  if (op == (21 : Int)) then
   some false
  else
   if (op == (28 : Int)) then
    (idx ks (0 : Int)).bind fun x4 =>
    (S x4).bind fun r6 =>
    some (!r6)
   else
    if (op == (29 : Int)) then
     (idx ks (0 : Int)).bind fun x9 =>
     (S x9).bind fun r11 =>
     if r11 then
      (idx ks (1 : Int)).bind fun x14 =>
      (S x14).bind fun r16 =>
      some r16
     else
      some false
    else
     if (op == (30 : Int)) then
      (idx ks (0 : Int)).bind fun x19 =>
      (S x19).bind fun r21 =>
      if r21 then
       some true
      else
       (idx ks (1 : Int)).bind fun x24 =>
       (S x24).bind fun r26 =>
       some r26
     else
      if (op == (31 : Int)) then
       (idx ks (0 : Int)).bind fun x29 =>
       (S x29).bind fun r31 =>
       if (!r31) then
        some true
       else
        (idx ks (1 : Int)).bind fun x34 =>
        (S x34).bind fun r36 =>
        some r36
      else
       if (op == (32 : Int)) then
        (idx ks (0 : Int)).bind fun x39 =>
        (S x39).bind fun r41 =>
        (idx ks (1 : Int)).bind fun x43 =>
        (S x43).bind fun r45 =>
        some (r41 == r45)
       else E
theorem connG_conn {α : Type} {S : α → Option Bool} {v : α → Bool} {op : Int} {ks : List α} {E : Option Bool} (hS : ∀ k ∈ ks, S k = some (v k)) (h : conn op = true) (hl : ks.length = if op == 28 then 1 else 2) :
  connG S op ks E = some (opB op ((ks.map v).getD 0 false) ((ks.map v).getD 1 false)) := by
 unfold connG opB
 rcases conn_cases h with rfl | rfl | rfl | rfl | rfl
 ·obtain ⟨a, rfl⟩ : ∃ a, ks = [a] := List.length_eq_one_iff.1 hl
  simp [idx, hS]
 all_goals
  obtain ⟨a, b, rfl⟩ : ∃ a b, ks = [a, b] := len_two hl
  have h1 := hS a (by simp)
  have h2 := hS b (by simp)
  simp [idx, h1, h2]
  try (cases v a <;> cases v b <;> rfl)
theorem connG_20 {α : Type} {S : α → Option Bool} {op : Int} {ks : List α} {E : Option Bool} (h : (op == 20) = true) : connG S op ks E = some true := by unfold connG; rw [if_pos h]
theorem connG_21 {α : Type} {S : α → Option Bool} {op : Int} {ks : List α} {E : Option Bool} (h0 : (op == 20) = false) (h : (op == 21) = true) : connG S op ks E = some false := by unfold connG; rw [if_neg (by rw [h0]; simp), if_pos h]
theorem connG_else {α : Type} {S : α → Option Bool} {op : Int} {ks : List α} {E : Option Bool} (h0 : (op == 20) = false) (h1 : (op == 21) = false) (h : conn op = false) : connG S op ks E = E := by
 unfold conn at h
 simp only [Bool.or_eq_false_iff] at h
 obtain ⟨h2, h3, h4, h5, h6⟩ := h
 unfold connG
 simp only [h0, h1, h2, h3, h4, h5, h6, Bool.false_eq_true, if_false]
theorem must_nat {i : Nat} : must (decide ((0 : Int) ≤ (i : Int))) = some () := by unfold must; rw [if_pos (decide_eq_true (by omega))]
theorem valued_iter {K M : Nat} (hK2 : 100 < K) (hM : M < 100000) (hMK : M < K) (hMb : M ≤ big) {l : List NodeA} (hl : l.length ≤ M) (hs : ∀ x ∈ l, x.size ≤ M) {bits : Int} : ∀ (n : NodeA) (j : Nat), Fine n → FewN n → n.size ≤ j → n.size ≤ M →
  iter j (fun self q => r20_valued_body K self q.1 q.2.1 q.2.2) (n, l, bits) = some (valS l bits n) := by
 refine NodeA.ind fun n ih => ?_
 intro j hfi hf hj hn
 have hp := n.size_pos
 obtain ⟨j, rfl⟩ : ∃ i, j = i + 1 := ⟨j - 1, by omega⟩
 rw [iter_succ]
 have ih' : ∀ k ∈ n.kids, iter j (fun self q => r20_valued_body K self q.1 q.2.1 q.2.2) (k, l, bits) = some (valS l bits k) :=
  fun k hk => ih k hk j (fine_kid hfi hk) (FewN_kid hf hk) (by have := NodeA.size_lt hk; omega) (by have := NodeA.size_lt hk; omega)
 generalize iter j (fun self q => r20_valued_body K self q.1 q.2.1 q.2.2) = S at ih' ⊢
 simp only
 show connG (fun x => S (x, l, bits)) n.op n.kids _ = _
 rw [valS_eq]
 cases h20 : n.op == 20 with
 | true => rw [connG_20 h20]; rfl
 | false =>
  cases h21 : n.op == 21 with
  | true => rw [connG_21 h20 h21]; rfl
  | false =>
   cases hc : conn n.op with
   | true => rw [connG_conn (v := valS l bits) ih' hc (conn_kids hfi hc)]; rfl
   | false =>
    rw [connG_else h20 h21 hc]
    rw [find_loop (T := Unit) (R := Bool) (l := l) (n := n) (E := fun x => r08_Equal K x n) (r := fun i => bitB bits i) (e := ()) (fun x hx => r08_Equal_ex hK2 (.inr hf) (by have := hs x hx; omega) (by have := hs x hx; omega)) (by omega) (fun g i x hx => by
     obtain ⟨hlt, rfl⟩ := List.getElem?_eq_some_iff.1 hx
     simp only [lt_tn hlt, if_true, idx_nat, hx, Option.bind_some, outM_eq, must_nat]; rfl) (fun g => by simp only [lt_fn (Nat.le_refl l.length), Bool.false_eq_true, if_false]) (by omega), Option.bind_some]
    cases fi l n <;> rfl
theorem holds_iter {K M : Nat} {l : List NodeA} (ha : ∀ x ∈ l, cst x.op = false ∧ conn x.op = false) {bits : Int} : ∀ (n : NodeA) (j : Nat), Fine n → Cov l n → n.size ≤ j →
  iter j (fun self q => proof_boolean_holds_body K self q.1 q.2) (numS l n, bits) = some (valS l bits n) := by
 refine NodeA.ind fun n ih => ?_
 intro j hfi hcov hj
 have hp := n.size_pos
 obtain ⟨j, rfl⟩ : ∃ i, j = i + 1 := ⟨j - 1, by omega⟩
 rw [iter_succ]
 have hkc : conn n.op = true → ∀ k ∈ n.kids, Cov l k := fun hc => by
  rw [Cov_eq] at hcov
  have h0 : cst n.op = false := by unfold cst; rw [(conn_ne hc).1, (conn_ne hc).2]; rfl
  rw [if_neg (by rw [h0]; simp), if_pos hc] at hcov
  exact hcov
 have ih' : conn n.op = true → ∀ k ∈ n.kids, iter j (fun self q => proof_boolean_holds_body K self q.1 q.2) (numS l k, bits) = some (valS l bits k) :=
  fun hc k hk => ih k hk j (fine_kid hfi hk) (hkc hc k hk) (by have := NodeA.size_lt hk; omega)
 generalize iter j (fun self q => proof_boolean_holds_body K self q.1 q.2) = S at ih' ⊢
 simp only
 show connG (fun x => S (x, bits)) (numS l n).op (numS l n).kids _ = _
 rw [valS_eq]
 have no : ∀ {q : NodeA}, cst q.op = true ∨ conn q.op = true → fi l q = none := fun {q} h => fi_none fun hm => by
  obtain ⟨h1, h2⟩ := ha q hm
  rcases h with h | h
  ·rw [h1] at h; cases h
  ·rw [h2] at h; cases h
 cases h20 : n.op == 20 with
 | true =>
  have hq : cst n.op = true := by unfold cst; rw [h20]; rfl
  rw [numS_none (no (.inl hq)), Proof_booleanA.op_mk, connG_20 h20]; rfl
 | false =>
  cases h21 : n.op == 21 with
  | true =>
   have hq : cst n.op = true := by unfold cst; rw [h21]; simp
   rw [numS_none (no (.inl hq)), Proof_booleanA.op_mk, connG_21 h20 h21]; rfl
  | false =>
   cases hc : conn n.op with
   | true =>
    rw [numS_none (no (.inr hc))]
    simp only [Proof_booleanA.op_mk, Proof_booleanA.kids_mk]
    have e : ∀ E : Option Bool, connG (fun x => S (x, bits)) n.op (n.kids.map (numS l)) E = connG (fun k => S (numS l k, bits)) n.op n.kids E := fun E => by
     have hl := conn_kids hfi hc
     unfold connG
     rcases conn_cases hc with e | e | e | e | e <;> rw [e] at hl ⊢
     ·obtain ⟨a, ha⟩ : ∃ a, n.kids = [a] := List.length_eq_one_iff.1 hl
      rw [ha]; rfl
     all_goals
      obtain ⟨a, b, ha⟩ : ∃ a b, n.kids = [a, b] := len_two hl
      rw [ha]; rfl
    rw [e, connG_conn (v := valS l bits) (ih' hc) hc (conn_kids hfi hc)]; rfl
   | false =>
    have hq : cst n.op = false := by unfold cst; rw [h20, h21]; rfl
    have hm : n ∈ l := by
     rw [Cov_eq, if_neg (by rw [hq]; simp), if_neg (by rw [hc]; simp)] at hcov
     exact hcov
    obtain ⟨i, hi, _⟩ := fi_some hm
    rw [numS_some hi, hi]
    simp only [Proof_booleanA.op_mk, Proof_booleanA.kids_mk, Proof_booleanA.atom_mk]
    rw [connG_else rfl rfl rfl, must_nat]
    rfl
end
end Go.Proofs.YtafipfdohicfbaaGreatDoor
namespace Go.Proofs.YtafipfdohicfbaaGreatDoor
open Go Go.Iso Go.Proofs
set_option linter.unusedSimpArgs false
set_option linter.unusedVariables false
set_option maxRecDepth 100000
theorem check_fine {n : NodeA} {s : Int} (h : checkS n s = 0) : Fine n := by
 unfold checkS at h
 split at h
 ·cases h
 ·split at h
  ·split at h
   ·cases h
   ·split at h
    ·cases h
    ·next h2 => exact ⟨false, false, false, by simpa using h2⟩
  ·cases h
theorem shl_pow : ∀ k, k < 13 → bShl .i64 (1 : Int) ((k : Nat) : Int) = ((2 ^ k : Nat) : Int) := by
 intro k hk
 have : ((List.range 13).all fun k => bShl .i64 (1 : Int) ((k : Nat) : Int) == ((2 ^ k : Nat) : Int)) = true := by kernel_rfl
 exact eq_of_beq (List.all_eq_true.1 this k (by simpa using hk))
theorem bits_loop {K N : Nat} {v : Int → Bool} {H : Int → Option Bool} {len : Nat} (hlen : len < 13) (hK : 5000 ≤ K) (hH : ∀ i, H i = some (v i)) :
  (iter (S := Int) (R := Out Unit (Bool × Int)) K (fun again i11_0 =>
    (must (decide ((0 : Int) ≤ ((len : Nat) : Int)))).bind fun _ =>
    if (decide (i11_0 < (bShl .i64 (1 : Int) ((len : Nat) : Int)))) then
     (H i11_0).bind fun r17 =>
     if (!r17) then
      outM (
       some (false, (0 : Int)))
     else
      again (IntKind.wrap .i64 (i11_0 + (1 : Int)))
    else
     some (.go ())) (0 : Int)) = some (if (List.range (2 ^ len)).all (fun i => v (i : Int)) then .go () else .out (false, (0 : Int))) := by
 have hp : 2 ^ len ≤ 2 ^ 12 := Nat.pow_le_pow_right (by omega) (by omega)
 refine scanI (2 ^ len) (fun i => v (i : Int)) (false, (0 : Int)) (by omega) (fun g i hi => ?_) (fun g => ?_) (by omega)
 ·rw [must_nat, shl_pow len hlen, hH]
  simp only [Option.bind_some, lt_tn hi, if_true, outM_eq]
  cases v (i : Int) <;> rfl
 ·rw [must_nat, shl_pow len hlen]
  simp only [Option.bind_some, lt_fn (Nat.le_refl (2 ^ len)), Bool.false_eq_true, if_false]
theorem ProofTaut_law {n : NodeA} (hb : n.size ≤ big) (hw : n.words) : ∃ K, law20_ProofTaut K n = some true := by
 refine ⟨100000 + 4 * n.size, ?_⟩
 generalize hk : 100000 + 4 * n.size = K
 unfold law20_ProofTaut
 refine ob true rfl ?_
 simp only [Bool.not_true, Bool.false_eq_true, if_false]
 refine ob _ (r08_Size_eq (by omega) hb) ?_
 by_cases hsm : n.size ≤ 300
 ·rw [decide_eq_false (by omega : ¬ (300 : Int) < (n.size : Int))]
  simp only [Bool.false_eq_true, if_false]
  suffices h : ∃ r, proof_Taut K n = some r ∧ r20_Taut K n = some r by
   obtain ⟨r, h1, h2⟩ := h
   refine ob r h1 (ob r h2 ?_)
   simp
  unfold proof_Taut r20_Taut
  rw [tree_Check_eq (by omega) (by omega) hb, r08_Check_eq (by omega) (by omega) hb hw, Option.bind_some, Option.bind_some]
  by_cases hc : checkS n 2 = 0
  ·rw [hc]
   simp only [bne_self_eq_false, Bool.false_eq_true, if_false]
   have hfi := check_fine hc
   have hf := fine_fewN n hfi hb
   have hbb : 1000 ≤ big := by unfold big; omega
   obtain ⟨r1, h1, e1⟩ := taut_atoms (K := K) (M := 1000) (by omega) (by omega) (by omega) hbb n K none hf (by omega) (by omega) (by simp) (by simp; omega)
   obtain ⟨r2, h2, e2⟩ := r20_atoms_ex (K := K) (M := 1000) (by omega) (by omega) (by omega) hbb n K none hf (by omega) (by omega) (by simp) (by simp; omega)
   have g1 : proof_Taut_1 K n none = some r1 := h1
   have g2 : r20_atoms K none n = some r2 := h2
   rw [g1, g2, Option.bind_some, Option.bind_some]
   simp only [Option.getD_none] at e1 e2
   rw [e1, e2]
   generalize hl : atomsS n [] = l
   have hlen : l.length ≤ 1000 := by have := atoms_len n []; rw [hl] at this; simp at this; omega
   have hsz : ∀ x ∈ l, x.size ≤ 1000 := by rw [← hl]; exact atoms_all n [] (by simp) fun k hk _ _ _ => by omega
   have hat : ∀ x ∈ l, cst x.op = false ∧ conn x.op = false := by rw [← hl]; exact atoms_all n [] (by simp) fun k hk a b _ => ⟨a, b⟩
   have hcov : Cov l n := by rw [← hl]; exact atoms_cov n []
   by_cases h12 : l.length < 13
   ·rw [decide_eq_false (by omega : ¬ (12 : Int) < (l.length : Int))]
    simp only [Bool.false_eq_true, if_false]
    have hnum : proof_numbered K n l = some (numS l n) := numbered_iter (K := K) (M := 1000) (by omega) (by omega) (by omega) hbb hlen hsz n K hf (by omega) (by omega)
    rw [hnum, Option.bind_some]
    have hh : ∀ i, proof_boolean_holds K (numS l n) i = some (valS l i n) := fun i => holds_iter (K := K) (M := 1000) hat n K hfi hcov (by omega)
    have hv : ∀ i, r20_valued K n l i = some (valS l i n) := fun i => valued_iter (K := K) (M := 1000) (by omega) (by omega) (by omega) hbb hlen hsz n K hfi hf (by omega) (by omega)
    rw [bits_loop (N := 0) (v := fun i => valS l i n) h12 (by omega) hh, bits_loop (N := 0) (v := fun i => valS l i n) h12 (by omega) hv]
    cases (List.range (2 ^ l.length)).all (fun i => valS l (i : Int) n) <;> exact ⟨_, rfl, rfl⟩
   ·rw [decide_eq_true (by omega : (12 : Int) < (l.length : Int))]
    exact ⟨_, rfl, rfl⟩
  ·have e : (checkS n 2 != 0) = true := by simpa using hc
   rw [e]
   exact ⟨_, rfl, rfl⟩
 ·rw [decide_eq_true (by omega : (300 : Int) < (n.size : Int))]; rfl
end Go.Proofs.YtafipfdohicfbaaGreatDoor
