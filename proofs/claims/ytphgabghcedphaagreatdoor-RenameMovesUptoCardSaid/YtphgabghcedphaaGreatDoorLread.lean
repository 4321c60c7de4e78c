/- Part of the proof of a law: contracts of the functions that the law reaches, or plain laws of them, out of the abstract layer (the texts YtphgabghcedphaaGreatDoorIso..). No condition. -/
import Derived.Test.YtphgabghcedphaaGreatDoorIsoF
import Derived.Test.YtphgabghcedphaaGreatDoorRows
import Derived.Test.YtphgabghcedphaaGreatDoorW
import Derived.Lib.SmallJoins
import Derived.Deep.Strs
import Derived.Test.YtphgabghcedphaaGreatDoorPc
import Derived.KernelRfl
namespace Go.Proofs.YtphgabghcedphaaGreatDoor
open Go Go.Iso Go.Proofs Go.RowKit Go.ChangeShapes Go.WideShapes Go.ChangeAt
set_option linter.unusedVariables false
set_option linter.unusedSimpArgs false
set_option maxRecDepth 100000
/-! ### Trees as they are read -/
theorem u32_wf {z : Int} (h : (Lit.int .u32 z).wf = true) : 0 ≤ z ∧ z < 4294967296 := by
 simp [Lit.wf, IntKind.min, IntKind.max, IntKind.signed, IntKind.bits] at h; omega
theorem words_rep {H : Type} {enc : TypeId × Value → H} {W : World} {fuel : Nat} {cs : List Value} {x : DataW H × List MemPlace} (h : DataW.trod enc Tryz.prog W 0 (fun _ => true) true fuel 22 cs = some x) :
  ∃ (l : List Int) (c : Value), cs = [c] ∧ RepD (there W) W (slD u32V l) c ∧ ∀ z ∈ l, 0 ≤ z ∧ z < 4294967296 := by
 obtain ⟨l, c, h1, h2, h3⟩ := slice_rep u32V (s := 1) Tryz.underlying22 (by kernel_rfl) (by omega) (fun _ => rfl) (fun z _ => 0 ≤ z ∧ z < 4294967296) (fun n cs' y _ hy => by
  obtain ⟨z, h1, h2⟩ := int_cell Tryz.underlying120 hy
  exact ⟨z, h1, u32_wf h2⟩) h
 refine ⟨l, c, h1, h2, fun z hz => ?_⟩
 rcases h3 with ⟨_, rfl⟩ | ⟨ys, rest, _, hl, hq⟩
 ·cases hz
 ·obtain ⟨i, hi, rfl⟩ := List.mem_iff_getElem.1 hz
  exact hq i hi (by omega)
theorem rat_rep {H : Type} {enc : TypeId × Value → H} {W : World} {fuel : Nat} {cs : List Value} {x : DataW H × List MemPlace} (h : DataW.trod enc Tryz.prog W 0 (fun _ => true) true fuel 24 cs = some x) :
  ∃ r : RatA, RowRep W r.enc cs ∧ r.words := by
 obtain ⟨y0, y1, y2, n, rfl, hl, h0, h1, h2⟩ := Go.Deep.trod_struct3 Tryz.underlying24 h
 have hc : Tryz.prog.cellsOf 24 = 3 := by kernel_rfl
 have hc4 : Tryz.prog.cellsOf 4 = 1 := by kernel_rfl
 have hc36 : Tryz.prog.cellsOf 22 = 1 := by kernel_rfl
 rw [hc] at hl
 match cs, hl with
 | [u, v, w], _ =>
  simp only [hc4, hc36, List.drop_zero, List.take_succ_cons, List.take_zero, List.drop_succ_cons] at h0 h1 h2
  obtain ⟨b, e0, _⟩ := DataW.trod_bool Tryz.underlying4 h0
  obtain ⟨l1, c1, e1, r1, w1⟩ := words_rep h1
  obtain ⟨l2, c2, e2, r2, w2⟩ := words_rep h2
  cases e0; cases e1; cases e2
  refine ⟨⟨b, l1, l2⟩, ⟨rfl, fun j hj => ?_⟩, w1, w2⟩
  match j, hj with
  | 0, _ => exact .val _ rfl
  | 1, _ => exact r1
  | 2, _ => exact r2
theorem bulk_slice {H : Type} {ys rest : List (DataW H)} : Rows.uptoBulk (.slice ys rest) = Rows.uptoBulkAll ys + Rows.uptoBulkAll rest + 1 := by rw [Rows.uptoBulk]
theorem bulk_ge {H : Type} : ∀ {l : List NodeA} {ys : List (DataW H)}, l.length = ys.length → (∀ i (h1 : i < l.length) (h2 : i < ys.length), l[i].size ≤ Rows.uptoBulk ys[i]) → (l.map NodeA.size).sum ≤ Rows.uptoBulkAll ys
 | [], _, _, _ => by simp
 | x :: l, [], h, _ => by simp at h
 | x :: l, y :: ys, h, hq => by
  have h0 := hq 0 (by simp) (by simp)
  have := bulk_ge (l := l) (ys := ys) (by simpa using h) fun i h1 h2 => by
   have := hq (i + 1) (by simpa using h1) (by simpa using h2); simpa using this
  rw [Rows.uptoBulkAll, List.map_cons, List.sum_cons]
  simp at h0; omega
theorem node_row {H : Type} {enc : TypeId × Value → H} {W : World} : ∀ (fuel : Nat) (cs : List Value) (x : DataW H × List MemPlace), DataW.trod enc Tryz.prog W 0 (fun _ => true) true fuel 27 cs = some x →
  ∃ n : NodeA, RowRep W n.enc cs ∧ n.words ∧ n.size ≤ Rows.uptoBulk x.1 := by
 intro fuel
 induction fuel using Nat.strongRecOn with
 | _ fuel ih =>
  intro cs x h
  obtain ⟨xs, n, hfu, rfl, hl, hlen, hfs⟩ := DataW.trod_struct Tryz.underlying27 h
  have hc : Tryz.prog.cellsOf 27 = 6 := by kernel_rfl
  have hc1 : Tryz.prog.cellsOf 3 = 1 := by kernel_rfl
  have hc2 : Tryz.prog.cellsOf 9 = 1 := by kernel_rfl
  have hc3 : Tryz.prog.cellsOf 24 = 3 := by kernel_rfl
  have hc4 : Tryz.prog.cellsOf 25 = 1 := by kernel_rfl
  rw [hc] at hl
  match xs, hlen with
  | [y0, y1, y2, y3], _ =>
  match cs, hl with
  | [u0, u1, u2, u3, u4, u5], _ =>
   have h0 := hfs 0 _ rfl
   have h1 := hfs 1 _ rfl
   have h2 := hfs 2 _ rfl
   have h3 := hfs 3 _ rfl
   simp only [hc1, hc2, hc3, hc4, List.drop_zero, List.take_succ_cons, List.take_zero, List.drop_succ_cons, List.getElem?_cons_zero, List.getElem?_cons_succ] at h0 h1 h2 h3
   obtain ⟨z, e0, _, _⟩ := DataW.trod_int Tryz.underlying3 h0
   obtain ⟨s, e1, _, hs⟩ := DataW.trod_string Tryz.underlying9 h1
   obtain ⟨r, r2, w2⟩ := rat_rep h2
   obtain ⟨l, c, e3, r3, q3⟩ := slice_rep NodeA.enc (s := 6) Tryz.underlying25 (by kernel_rfl) (by omega) NodeA.enc_len (fun k y => k.words ∧ k.size ≤ Rows.uptoBulk y) (fun m cs' y hm hy => ih m (by omega) cs' y hy) h3
   cases e0; cases e1; cases e3
   refine ⟨.mk z s r l, ⟨by rw [NodeA.enc_mk]; rfl, fun j hj => ?_⟩, ?_, ?_⟩
   ·have hr := r2.2
    have e : (NodeA.mk z s r l).enc = [.val (.int .i64 z), .val (.string s), .val (.bool r.neg), slD u32V r.num, slD u32V r.den, slD NodeA.enc l] := NodeA.enc_mk
    have hj6 : j < 6 := by rw [e] at hj; exact hj
    have key : ∀ (ds : List D), ds = (NodeA.mk z s r l).enc → ∀ hj : j < ds.length, RepD (there W) W ds[j] ([Value.int .i64 z, .string s, u2, u3, u4, u5].getD j undef) := by
     intro ds hd hj
     rw [e] at hd; subst hd
     match j, hj6 with
     | 0, _ => exact .val _ rfl
     | 1, _ => exact .val _ (by rw [maxLen_eq] at hs; simpa [okVal] using hs)
     | 2, _ => exact hr 0 (by simp [RatA.enc])
     | 3, _ => exact hr 1 (by simp [RatA.enc])
     | 4, _ => exact hr 2 (by simp [RatA.enc])
     | 5, _ => exact r3
    exact key _ rfl hj
   ·rw [NodeA.words_mk]
    refine ⟨w2, fun k hk => ?_⟩
    rcases q3 with ⟨_, rfl⟩ | ⟨ys, rest, _, hl3, hq⟩
    ·cases hk
    ·obtain ⟨i, hi, rfl⟩ := List.mem_iff_getElem.1 hk
     exact (hq i hi (by omega)).1
   ·rw [NodeA.size_mk]
    simp only [List.map_cons, List.map_nil]
    rw [Rows.uptoBulk]
    simp only [Rows.uptoBulkAll]
    rcases q3 with ⟨_, rfl⟩ | ⟨ys, rest, e4, hl3, hq⟩
    ·simp
    ·have := bulk_ge hl3 fun i h1 h2 => (hq i h1 h2).2
     rw [e4, bulk_slice]; omega
theorem node_rep {H : Type} {enc : TypeId × Value → H} {W : World} {base : Nat} {v : Value} {d : DataW H} {ps : List MemPlace} (hval : Value.okWide Tryz.prog W .any base 27 v) (h : DataW.Trod enc Tryz.prog W 0 (fun _ => true) true 27 v d ps) :
  ∃ n : NodeA, RepV (fun _ => none) (there W) W (aggV n.enc) v ∧ n.words ∧ n.size ≤ Rows.uptoBulk d := by
 obtain ⟨cs, rfl, hs⟩ := okWide_struct Tryz.underlying27 hval
 obtain ⟨fuel, hf⟩ := h
 obtain ⟨n, h1, h2, h3⟩ := node_row fuel _ _ hf
 obtain ⟨cs⟩ := cs
 refine ⟨n, .agg (by have := h1.1; simp only [Value.cells] at this; simp [this]) fun i hi => ?_, h2, h3⟩
 have := h1.2 i (by simpa using hi)
 simp only [Value.cells] at this
 rw [List.getElem_map]
 refine .d ?_
 simpa [Array.getD_eq_getD_getElem?, List.getD_eq_getElem?_getD] using this
end Go.Proofs.YtphgabghcedphaaGreatDoor
namespace Go.Proofs.YtphgabghcedphaaGreatDoor
open Go Go.Iso Go.Proofs
set_option linter.unusedSimpArgs false
set_option linter.unusedVariables false
set_option maxRecDepth 100000
/-! ### Operators -/
def sortS (p0 : Int) : Int :=
 if (decide (1 ≤ p0) && decide (p0 ≤ 13)) then 1 else if (decide (20 ≤ p0) && decide (p0 ≤ 39)) then 2 else if (p0 == 55 || p0 == 56) then 4 else if (decide (50 ≤ p0) && decide (p0 ≤ 62)) then 3 else 0
theorem tree_Sort_eq {K : Nat} {op : Int} : tree_Sort K op = some (sortS op) := by
 unfold tree_Sort sortS; simp only [andO, orO, Option.bind_some, ifOI]
theorem r08_Sort_eq {K : Nat} {op : Int} : r08_Sort K op = some (sortS op) := by
 unfold r08_Sort sortS; simp only [andO, orO, Option.bind_some, ifOI]
theorem sort_range {op : Int} (h : sortS op ≠ 0) : ∃ k : Nat, k < 63 ∧ op = k := by
 refine ⟨op.toNat, ?_, ?_⟩ <;>
 ·have : 1 ≤ op ∧ op ≤ 62 := by
   apply Classical.byContradiction
   intro hc
   apply h
   unfold sortS
   have e1 : (decide (1 ≤ op) && decide (op ≤ 13)) = false := by simp; omega
   have e2 : (decide (20 ≤ op) && decide (op ≤ 39)) = false := by simp; omega
   have e3 : (op == 55 || op == 56) = false := by simp; omega
   have e4 : (decide (50 ≤ op) && decide (op ≤ 62)) = false := by simp; omega
   rw [e1, e2, e3, e4]; rfl
  omega
def namedS (op : Int) : Bool := (tree_shape 0 op).all (·.1)
def sortsS (op : Int) : Option (List Int) := (tree_shape 0 op).bind (·.2)
theorem tree_shape_eq {K : Nat} {op : Int} : tree_shape K op = some (namedS op, sortsS op) := by
 have e : ∃ r, tree_shape 0 op = some r := by
  unfold tree_shape; simp only [andO, orO, orO', Option.bind_some, ifOP, ifOO, outM_eq, finIf, finIf', Out.fin_go, Out.fin_out]
  repeat' (first | exact ⟨_, rfl⟩ | split)
 obtain ⟨r, h⟩ := e
 have e2 : tree_shape K op = tree_shape 0 op := rfl
 unfold namedS sortsS
 rw [e2, h]; rfl
def namB (op : Int) : Bool := (r08_named 0 op).all id
def kidB (op : Int) : ByteArray := (r08_kids 0 op).getD ⟨#[]⟩
theorem r08_named_eq {K : Nat} {op : Int} : r08_named K op = some (namB op) := by
 have e : ∃ r, r08_named 0 op = some r := by
  unfold r08_named; simp only [andO, orO, orO', Option.bind_some]
  repeat' (first | exact ⟨_, rfl⟩ | split)
 obtain ⟨r, h⟩ := e
 have e2 : r08_named K op = r08_named 0 op := rfl
 unfold namB
 rw [e2, h]; rfl
theorem r08_kids_eq {K : Nat} {op : Int} : r08_kids K op = some (kidB op) := by
 have e : ∃ r, r08_kids 0 op = some r := by
  unfold r08_kids; simp only [andO, orO, orO', Option.bind_some, ifOS]
  repeat' (first | exact ⟨_, rfl⟩ | split)
 obtain ⟨r, h⟩ := e
 have e2 : r08_kids K op = r08_kids 0 op := rfl
 unfold kidB
 rw [e2, h]; rfl
def tabB (k : Int) : Bool := sortS k == 0 || (namB k == (namedS k || (k == 10 || k == 37)) && ((kidB k).toList.map (fun c => (c.toNat : Int) - 48) == (sortsS k).getD []) && ((kidB k).toList.all fun c => decide (48 ≤ c.toNat) && decide (c.toNat ≤ 57)) &&
 (!(k == 10 || k == 37 || k == 54) || sortsS k == none && !namedS k) && (!(k == 39) || sortsS k == some [2]) && (!(k == 8 || k == 9) || sortsS k == some [1, 1]) && (!(k == 12) || sortsS k == some [1]) && ((sortsS k).getD []).all (fun s => s != 0))
theorem tab_all : ((List.range 63).all fun k => tabB (k : Int)) = true := by decide +kernel
theorem tab {op : Int} (h : sortS op ≠ 0) : namB op = (namedS op || (op == 10 || op == 37)) ∧ (kidB op).toList.map (fun c => (c.toNat : Int) - 48) = (sortsS op).getD [] ∧ (∀ c ∈ (kidB op).toList, 48 ≤ c.toNat ∧ c.toNat ≤ 57) ∧
  ((op == 10 || op == 37 || op == 54) = true → sortsS op = none ∧ namedS op = false) ∧ (op = 39 → sortsS op = some [2]) ∧ ((op == 8 || op == 9) = true → sortsS op = some [1, 1]) ∧ (op = 12 → sortsS op = some [1]) ∧ (∀ s ∈ (sortsS op).getD [], s ≠ 0) := by
 obtain ⟨k, hk, rfl⟩ := sort_range h
 have := List.all_eq_true.1 tab_all k (List.mem_range.2 hk)
 generalize (k : Int) = op at *
 unfold tabB at this
 have h0 : (sortS op == 0) = false := beq_eq_false_iff_ne.2 h
 rw [h0, Bool.false_or] at this
 simp only [Bool.and_eq_true] at this
 obtain ⟨⟨⟨⟨⟨⟨⟨h1, h2⟩, h3⟩, h4⟩, h5⟩, h6⟩, h7⟩, h8⟩ := this
 refine ⟨eq_of_beq h1, eq_of_beq h2, fun c hc => ?_, fun ho => ?_, fun ho => ?_, fun ho => ?_, fun ho => ?_, fun s hs => ?_⟩
 ·have := List.all_eq_true.1 h3 c hc
  simpa using this
 ·rw [ho] at h4
  simp only [Bool.not_true, Bool.false_or, Bool.and_eq_true, Bool.not_eq_true'] at h4
  exact ⟨eq_of_beq h4.1, h4.2⟩
 ·have : (op == 39) = true := by simp [ho]
  rw [this] at h5; simpa using h5
 ·rw [ho] at h6; simpa using h6
 ·have : (op == 12) = true := by simp [ho]
  rw [this] at h7; simpa using h7
 ·have := List.all_eq_true.1 h8 s hs
  simpa using this
/-! ### Names -/
def letB (z : Int) : Bool := decide (97 ≤ z) && decide (z ≤ 122) || decide (65 ≤ z) && decide (z ≤ 90)
theorem tree_letter_eq {K : Nat} {z : Int} : tree_letter K z = some (letB z) := by
 unfold tree_letter letB
 cases decide (97 ≤ z) <;> cases decide (z ≤ 122) <;> cases decide (65 ≤ z) <;> rfl
theorem r08_letter_eq {K : Nat} {z : Int} : r08_letter K z = some (letB z) := by
 unfold r08_letter letB
 cases decide (97 ≤ z) <;> cases decide (z ≤ 122) <;> cases decide (65 ≤ z) <;> rfl
def digB (z : Int) : Bool := !(decide (z < 48) || decide (57 < z))
abbrev kw (s : ByteArray) : Bool := (s.toList == (⟨#[116, 114, 117, 101]⟩ : ByteArray).toList || (s.toList == (⟨#[102, 97, 108, 115, 101]⟩ : ByteArray).toList || (s.toList == (⟨#[102, 111, 114, 97, 108, 108]⟩ : ByteArray).toList || s.toList == (⟨#[101, 120, 105, 115, 116, 115]⟩ : ByteArray).toList)))
def nameB (s : ByteArray) : Bool :=
 !(((s.size : Int) == 0) || (decide (12 < (s.size : Int)) || kw s)) && (List.range s.size).all fun i => (s[i]?).all fun c => letB c.toNat || !((i : Int) == 0) && digB c.toNat
theorem strAt_get {s : ByteArray} {i : Nat} (h : i < s.size) : strAt s (i : Int) = some s[i] ∧ s[i]? = some s[i] := by
 rw [strAt_nat]; exact ⟨getElem?_pos s i h, getElem?_pos s i h⟩
theorem r08_Name_eq {K : Nat} {s : ByteArray} (hK : 12 < K) : r08_Name K s = some (nameB s) := by
 unfold r08_Name
 simp only [orO, Option.bind_some, outM_eq, finIf, ifOO]
 unfold nameB
 cases hb : (((s.size : Int) == 0) || (decide (12 < (s.size : Int)) || kw s)) with
 | true => simp only [if_true, Bool.not_true, Bool.false_and]
 | false =>
  have hs : s.size ≤ 12 := by
   have : decide (12 < (s.size : Int)) = false := by revert hb; cases decide (12 < (s.size : Int)) <;> cases ((s.size : Int) == 0) <;> simp
   simp at this; omega
  simp only [Bool.false_eq_true, if_false, Bool.not_false, Bool.true_and]
  refine ob _ (scanG s.size (fun i => (i : Int)) (fun i => (s[i]?).all fun c => letB c.toNat || !((i : Int) == 0) && digB c.toNat) false () (fun g i hi => ?_) (fun g => ?_) (by omega) rfl) ?_
  ·obtain ⟨h1, h2⟩ := strAt_get hi
   have hd : decide ((i : Int) < (s.size : Int)) = true := by simp; omega
   simp only [hd, if_true, h1, h2, Option.bind_some, r08_letter_eq, Option.all_some]
   simp only [orO, orO', andO, Option.bind_some, outM_eq]
   rw [w64s (by omega)]
   unfold digB
   cases letB (s[i].toNat : Int) <;> cases ((i : Int) == 0) <;> cases decide ((s[i].toNat : Int) < 48) <;> cases decide (57 < (s[i].toNat : Int)) <;> rfl
  ·have hd : decide ((s.size : Int) < (s.size : Int)) = false := by simp
   simp only [hd, Bool.false_eq_true, if_false]
  ·cases (List.range s.size).all fun i => (s[i]?).all fun c => letB c.toNat || !((i : Int) == 0) && digB c.toNat <;> rfl
theorem tree_Name_eq {K : Nat} {s : ByteArray} (hK : 12 < K) : tree_Name K s = some (nameB s) := by
 unfold tree_Name
 have hkw : ∀ {x y : Option Bool}, (if (s.toList == (⟨#[116, 114, 117, 101]⟩ : ByteArray).toList) = true then x else y) = (if (s.toList == (⟨#[116, 114, 117, 101]⟩ : ByteArray).toList) = true then x else y) := rfl
 simp only [tree_letter_eq, Option.bind_some, orO']
 unfold nameB
 by_cases h0 : s.size = 0
 ·have e : ((s.size : Int) == 0) = true := by simp [h0]
  simp only [e, if_true, Option.bind_some, outM_eq, Out.fin_out, Bool.true_or, Bool.not_true, Bool.false_and]
 have e0 : ((s.size : Int) == 0) = false := int_ne0 h0
 by_cases h1 : 12 < s.size
 ·have e : decide (12 < (s.size : Int)) = true := by simp; omega
  simp only [e0, e, if_true, Bool.false_eq_true, if_false, Option.bind_some, outM_eq, Out.fin_out, Bool.true_or, Bool.or_true, Bool.not_true, Bool.false_and]
 have e1 : decide (12 < (s.size : Int)) = false := by simp; omega
 obtain ⟨g1, g2⟩ := strAt_get (s := s) (i := 0) (by omega)
 have g1' : strAt s 0 = some s[0] := g1
 simp only [e0, e1, Bool.false_eq_true, if_false, g1', Option.bind_some, Bool.false_or]
 cases hl : letB (s[0].toNat : Int) with
 | false =>
  simp only [Bool.not_false, if_true, outM_eq, Option.bind_some, Out.fin_out]
  have : ((List.range s.size).all fun i => (s[i]?).all fun c => letB c.toNat || !((i : Int) == 0) && digB c.toNat) = false := by
   rw [List.all_eq_false]
   refine ⟨0, List.mem_range.2 (by omega), ?_⟩
   rw [g2, Option.all_some, hl]; simp
  rw [this, Bool.and_false]
 | true =>
  simp only [Bool.not_true, Bool.false_eq_true, if_false, Option.bind_some, Out.fin_go]
  refine ob _ (scanG s.size (fun i => (i : Int)) (fun i => (s[i]?).all fun c => letB c.toNat || digB c.toNat) false () (fun g i hi => ?_) (fun g => ?_) (by omega) rfl) ?_
  ·obtain ⟨h1, h2⟩ := strAt_get hi
   have hd : decide ((i : Int) < (s.size : Int)) = true := by simp; omega
   simp only [hd, if_true, h1, h2, Option.bind_some, Option.all_some]
   rw [w64s (by omega)]
   unfold digB
   cases letB (s[i].toNat : Int) <;> cases decide ((s[i].toNat : Int) < 48) <;> cases decide (57 < (s[i].toNat : Int)) <;> rfl
  ·have hd : decide ((s.size : Int) < (s.size : Int)) = false := by simp
   simp only [hd, Bool.false_eq_true, if_false]
  ·have e2 : ((List.range s.size).all fun i => (s[i]?).all fun c => letB c.toNat || digB c.toNat) = (List.range s.size).all fun i => (s[i]?).all fun c => letB c.toNat || !((i : Int) == 0) && digB c.toNat := by
    rw [Bool.eq_iff_iff, List.all_eq_true, List.all_eq_true]
    refine forall_congr' fun i => forall_congr' fun hi => ?_
    obtain ⟨_, h2⟩ := strAt_get (List.mem_range.1 hi)
    rw [h2, Option.all_some, Option.all_some]
    by_cases hi0 : i = 0
    ·subst hi0; rw [hl]; simp
    ·have : ((i : Int) == 0) = false := by simp; omega
     rw [this]; simp
   rw [e2]
   cases (List.range s.size).all fun i => (s[i]?).all fun c => letB c.toNat || !((i : Int) == 0) && digB c.toNat with
   | false => simp [Out.fin]
   | true =>
    simp only [if_true, Out.fin_go, orO, Option.bind_some, Bool.and_true, e0, e1, Bool.false_or]
    unfold kw
    generalize (s.toList == _ || (s.toList == _ || (s.toList == _ || s.toList == _))) = q
    cases q <;> rfl
/-! ### Numbers -/
def natS (r : RatA) : Bool := !r.neg && r.den == [1] && decide (r.num.length ≤ 20) && (r.num.getLast?).all (· != 0)
theorem last_idx {l : List Int} (h : l.length ≠ 0) (hl : l.length ≤ 9223372036854775807) : idx l (IntKind.wrap .i64 ((l.length : Int) - 1)) = l.getLast? := by
 have e : IntKind.wrap .i64 ((l.length : Int) - 1) = ((l.length - 1 : Nat) : Int) := by rw [w64 (by omega) (by omega)]; omega
 rw [e, idx_nat, List.getLast?_eq_getElem?]
theorem num_valid_eq {K : Nat} {l : List Int} {m : Int} (hm : m ≤ 10000) : num_valid K l m = some (decide ((l.length : Int) ≤ m) && (l.getLast?).all (· != 0)) := by
 unfold num_valid
 by_cases h : (l.length : Int) ≤ m
 ·rw [decide_eq_true h, if_pos rfl]
  by_cases h0 : l.length = 0
  ·have : l = [] := List.eq_nil_of_length_eq_zero h0
   subst this; rfl
  ·have e : ((l.length : Int) == 0) = false := int_ne0 h0
   rw [e, last_idx h0 (by omega)]
   cases hx : l.getLast? with
   | none => simp at hx; subst hx; simp at h0
   | some x => simp
 ·rw [decide_eq_false h]; simp
theorem num_Valid_eq {K : Nat} {r : RatA} (hd : r.den = [1]) (hn : r.neg = false) : num_Valid K r 4096 = some (decide ((r.num.length : Int) ≤ 4096) && (r.num.getLast?).all (· != 0)) := by
 unfold num_Valid
 have i0 : idx ([1] : List Int) 0 = some 1 := rfl
 simp only [num_valid_eq (show (4096 : Int) ≤ 10000 by omega), hd, hn, i0, Option.bind_some]
 generalize (decide ((r.num.length : Int) ≤ 4096) && (r.num.getLast?).all (· != 0)) = b
 cases b with
 | false => simp [outM, Out.fin]
 | true => cases hq : ((r.num.length : Int) == 0) <;> simp [outM, Out.fin]
theorem tree_natural_eq {K : Nat} {r : RatA} : tree_natural K r = some (natS r) := by
 unfold tree_natural natS
 cases hn : r.neg with
 | true => simp
 | false =>
  simp only [Bool.not_false, if_true, Bool.true_and]
  by_cases hd : r.den.length = 1
  ·obtain ⟨d, hd⟩ := List.length_eq_one_iff.1 hd
   have i0 : idx ([d] : List Int) 0 = some d := rfl
   simp only [hd, i0, Option.bind_some, List.length_singleton]
   by_cases h1 : d = 1
   ·subst h1
    have e : rat_Valid K r = some (decide ((r.num.length : Int) ≤ 4096) && (r.num.getLast?).all (· != 0)) := by
     unfold rat_Valid; rw [num_Valid_eq hd hn]; rfl
    by_cases h2 : r.num.length ≤ 20
    ·have e2 : decide ((r.num.length : Int) ≤ 20) = true := by simp; omega
     have e3 : decide ((r.num.length : Int) ≤ 4096) = true := by simp; omega
     simp [e, e2, e3, h2]
    ·have e2 : decide ((r.num.length : Int) ≤ 20) = false := by simp; omega
     simp [e2, h2]
   ·simp [h1]
  ·have e : ((r.den.length : Int) == 1) = false := by simp; omega
   have : (r.den == [1]) = false := by
    rw [beq_eq_false_iff_ne]; rintro h; rw [h] at hd; exact hd rfl
   rw [e, this]; simp
theorem r08_natural_eq {K : Nat} {r : RatA} : r08_natural K r = some (natS r) := by
 unfold r08_natural natS
 cases hn : r.neg with
 | true => simp [outM, Out.fin]
 | false =>
  simp only [Bool.not_false, Bool.false_eq_true, if_false, Bool.true_and]
  by_cases hd : r.den.length = 1
  ·obtain ⟨d, hd⟩ := List.length_eq_one_iff.1 hd
   have i0 : idx ([d] : List Int) 0 = some d := rfl
   simp only [hd, i0, Option.bind_some, List.length_singleton]
   by_cases h1 : d = 1
   ·subst h1
    by_cases h2 : r.num.length ≤ 20
    ·have e2 : decide ((20 : Int) < (r.num.length : Int)) = false := by simp; omega
     by_cases h0 : r.num.length = 0
     ·have : r.num = [] := List.eq_nil_of_length_eq_zero h0
      simp [e2, this, Out.fin]
     ·have e : ((r.num.length : Int) == 0) = false := int_ne0 h0
      cases hx : r.num.getLast? with
      | none => simp at hx; rw [hx] at h0; simp at h0
      | some x => simp [e2, e, last_idx h0 (by omega), hx, Out.fin, h2]
    ·have e2 : decide ((20 : Int) < (r.num.length : Int)) = true := by simp; omega
     simp [e2, h2, outM, Out.fin]
   ·simp [h1, outM, Out.fin]
  ·have e : ((r.den.length : Int) != 1) = true := by simp; omega
   have : (r.den == [1]) = false := by
    rw [beq_eq_false_iff_ne]; rintro h; rw [h] at hd; exact hd rfl
   rw [e, this]; simp [outM, Out.fin]
/-! ### Well-formed trees -/
def diffS : NodeA → Bool
 | .mk op _ _ kids => (op == 20 || (op == 21 || (op == 22 || (op == 23 || (op == 24 || (op == 25 || (op == 26 || (op == 27 || (op == 37 || op == 38))))))))) || (op == 29 || op == 30) && kids.attach.all fun ⟨k, _⟩ => diffS k
termination_by n => SizeOf.sizeOf n
decreasing_by exact NodeA.size_kid (by assumption)
def primS : NodeA → Bool
 | .mk op _ _ kids => (op == 3 || (op == 12 || op == 39)) || kids.attach.any fun ⟨k, _⟩ => primS k
termination_by n => SizeOf.sizeOf n
decreasing_by exact NodeA.size_kid (by assumption)
theorem diffS_eq (n : NodeA) : diffS n = ((n.op == 20 || (n.op == 21 || (n.op == 22 || (n.op == 23 || (n.op == 24 || (n.op == 25 || (n.op == 26 || (n.op == 27 || (n.op == 37 || n.op == 38))))))))) || (n.op == 29 || n.op == 30) && n.kids.all diffS) := by
 cases n with | mk o m r ks => rw [diffS]; simp [NodeA.op, NodeA.kids]
theorem primS_eq (n : NodeA) : primS n = ((n.op == 3 || (n.op == 12 || n.op == 39)) || n.kids.any primS) := by
 cases n with | mk o m r ks => rw [primS]; simp [NodeA.op, NodeA.kids]
theorem scan_kids {R : Type} {n : NodeA} {K : Nat} (hK : n.size ≤ K) (hb : n.size ≤ 4611686018427387904) (p : NodeA → Bool) (r : R) {f : (Int → Option (Out Unit R)) → Int → Option (Out Unit R)}
  (h1 : ∀ g (i : Nat) (x : NodeA), x ∈ n.kids → n.kids[i]? = some x → f g (i : Int) = if p x then g (IntKind.wrap .i64 ((i : Int) + 1)) else some (.out r))
  (h2 : ∀ g, f g (n.kids.length : Int) = some (.go ())) : iter K f 0 = some (if n.kids.all p then .go () else .out r) := by
 have hl := n.kids_lt
 have := scanG n.kids.length (fun i => (i : Int)) (fun i => (n.kids[i]?).all p) r () (f := f) (fun g i hi => by
  have hx : n.kids[i]? = some n.kids[i] := List.getElem?_eq_getElem hi
  rw [h1 g i _ (List.getElem_mem hi) hx, hx, w64s (by omega)]; rfl) h2 (K := K) (by omega) rfl
 rw [range_all] at this
 exact this
theorem lt_t {l : List NodeA} {i : Nat} {x : NodeA} (h : l[i]? = some x) : decide ((i : Int) < (l.length : Int)) = true := by
 have := (List.getElem?_eq_some_iff.1 h).1; simp; omega
theorem lt_f {k : Nat} : decide ((k : Int) < (k : Int)) = false := by simp
theorem tree_diff_eq {K : Nat} : ∀ (k : Nat) (n : NodeA), n.size ≤ k → n.size ≤ K → n.size ≤ 4611686018427387904 → iter k (fun self q => tree_differentiable_body K self q) n = some (diffS n) := by
 intro k
 induction k with
 | zero => intro n h; have := n.size_pos; omega
 | succ k ih =>
  intro n h hK hb
  rw [iter_succ, diffS_eq]
  generalize iter k (fun self q => tree_differentiable_body K self q) = S at ih ⊢
  unfold tree_differentiable_body
  simp only [orO', Option.bind_some]
  generalize (n.op == 20 || (n.op == 21 || (n.op == 22 || (n.op == 23 || (n.op == 24 || (n.op == 25 || (n.op == 26 || (n.op == 27 || (n.op == 37 || n.op == 38))))))))) = a
  generalize (n.op == 29 || n.op == 30) = b
  cases a with
  | true => rfl
  | false =>
   cases b with
   | false => rfl
   | true =>
    simp only [Bool.false_eq_true, if_false, if_true, Bool.false_or, Bool.true_and]
    refine ob _ (scan_kids hK hb diffS false (fun g i x hm hx => ?_) (fun g => ?_)) ?_
    ·have hs := NodeA.size_lt hm
     simp only [lt_t hx, if_true, idx_nat, hx, Option.bind_some, ih x (by omega) (by omega) (by omega), outM_eq]
     cases diffS x <;> rfl
    ·simp only [lt_f, Bool.false_eq_true, if_false]
    ·cases n.kids.all diffS <;> rfl
theorem tree_differentiable_eq {K : Nat} {n : NodeA} (hK : n.size ≤ K) (hb : n.size ≤ 4611686018427387904) : tree_differentiable K n = some (diffS n) := tree_diff_eq K n hK hK hb
theorem r08_diff_eq {K : Nat} : ∀ (k : Nat) (n : NodeA), n.size ≤ k → n.size ≤ K → n.size ≤ 4611686018427387904 → iter k (fun self q => r08_differential_body K self q) n = some (diffS n) := by
 intro k
 induction k with
 | zero => intro n h; have := n.size_pos; omega
 | succ k ih =>
  intro n h hK hb
  rw [iter_succ, diffS_eq]
  generalize iter k (fun self q => r08_differential_body K self q) = S at ih ⊢
  unfold r08_differential_body
  have e : (n.op == 20 || (n.op == 21 || (n.op == 22 || (n.op == 23 || (n.op == 24 || (n.op == 25 || (n.op == 26 || (n.op == 27 || (n.op == 37 || n.op == 38))))))))) = (n.op == 20 || (n.op == 21 || (decide (22 ≤ n.op) && decide (n.op ≤ 27) || (n.op == 37 || n.op == 38)))) := by
   rw [Bool.eq_iff_iff]; simp; omega
  rw [e]
  have e2 : ∀ {b c : Bool}, (if decide (22 ≤ n.op) = true then if decide (n.op ≤ 27) = true then some true else if b = true then some true else some c else if b = true then some true else some c) = some (decide (22 ≤ n.op) && decide (n.op ≤ 27) || (b || c)) := by
   intro b c; cases decide (22 ≤ n.op) <;> cases decide (n.op ≤ 27) <;> cases b <;> rfl
  simp only [e2]
  simp only [orO, Option.bind_some]
  generalize (n.op == 20 || (n.op == 21 || (decide (22 ≤ n.op) && decide (n.op ≤ 27) || (n.op == 37 || n.op == 38)))) = a
  generalize (n.op == 29 || n.op == 30) = b
  cases a with
  | true => rfl
  | false =>
   cases b with
   | false => rfl
   | true =>
    simp only [Bool.false_eq_true, if_false, if_true, Bool.false_or, Bool.true_and]
    refine ob _ (scan_kids hK hb diffS false (fun g i x hm hx => ?_) (fun g => ?_)) ?_
    ·have hs := NodeA.size_lt hm
     simp only [lt_t hx, if_true, idx_nat, hx, Option.bind_some, ih x (by omega) (by omega) (by omega), outM_eq]
     cases diffS x <;> rfl
    ·simp only [lt_f, Bool.false_eq_true, if_false]
    ·cases n.kids.all diffS <;> rfl
theorem r08_differential_eq {K : Nat} {n : NodeA} (hK : n.size ≤ K) (hb : n.size ≤ 4611686018427387904) : r08_differential K n = some (diffS n) := r08_diff_eq K n hK hK hb
theorem r08_prim_eq {K : Nat} : ∀ (k : Nat) (n : NodeA), n.size ≤ k → n.size ≤ K → n.size ≤ 4611686018427387904 → iter k (fun self q => r08_primed_body K self q) n = some (primS n) := by
 intro k
 induction k with
 | zero => intro n h; have := n.size_pos; omega
 | succ k ih =>
  intro n h hK hb
  rw [iter_succ, primS_eq]
  generalize iter k (fun self q => r08_primed_body K self q) = S at ih ⊢
  unfold r08_primed_body
  simp only [orO, Option.bind_some]
  generalize (n.op == 3 || (n.op == 12 || n.op == 39)) = a
  cases a with
  | true => rfl
  | false =>
   simp only [Bool.false_eq_true, if_false, Option.bind_some, Out.fin_go, Bool.false_or]
   refine ob _ (scan_kids hK hb (fun x => !primS x) true (fun g i x hm hx => ?_) (fun g => ?_)) ?_
   ·have hs := NodeA.size_lt hm
    simp only [lt_t hx, if_true, idx_nat, hx, Option.bind_some, ih x (by omega) (by omega) (by omega), outM_eq]
    cases primS x <;> rfl
   ·simp only [lt_f, Bool.false_eq_true, if_false]
   ·have : (n.kids.all fun x => !primS x) = !n.kids.any primS := by rw [List.not_any_eq_all_not]
    rw [this]
    cases n.kids.any primS <;> rfl
theorem r08_primed_eq {K : Nat} {n : NodeA} (hK : n.size ≤ K) (hb : n.size ≤ 4611686018427387904) : r08_primed K n = some (primS n) := r08_prim_eq K n hK hK hb
abbrev big : Nat := 1099511627776
/-! ### Size, Levels, within -/
theorem sum_take {α : Type} {l : List α} {f : α → Nat} {i : Nat} {x : α} (h : l[i]? = some x) : ((l.take (i + 1)).map f).sum = ((l.take i).map f).sum + f x := by
 rw [List.take_add_one, h]; simp
theorem sum_take_le {α : Type} {l : List α} {f : α → Nat} : ∀ {i : Nat}, ((l.take i).map f).sum ≤ (l.map f).sum := by
 induction l with
 | nil => intro i; simp
 | cons x l ih => intro i; cases i with
  | zero => simp
  | succ i => rw [List.take_succ_cons, List.map_cons, List.map_cons, List.sum_cons, List.sum_cons]; have := ih (i := i); omega
theorem Size_iter {K : Nat} : ∀ (k : Nat) (n : NodeA), n.size ≤ k → n.size ≤ K → n.size ≤ big → iter k (fun self q => r08_Size_body K self q) n = some (n.size : Int) := by
 intro k
 induction k with
 | zero => intro n h; have := n.size_pos; omega
 | succ k ih =>
  intro n h hK hb
  rw [iter_succ]
  generalize iter k (fun self q => r08_Size_body K self q) = S at ih ⊢
  unfold r08_Size_body
  have hl := n.kids_lt
  have hsz : n.size = 1 + (n.kids.map NodeA.size).sum := by cases n with | mk o m r ks => rw [NodeA.size_mk]; rfl
  have hb' : n.size ≤ 1099511627776 := hb
  refine ob _ (foldG n.kids.length (fun i => (((1 + ((n.kids.take i).map NodeA.size).sum : Nat) : Int), (i : Int))) (n.size : Int) (fun g i hi => ?_) (fun g => ?_) (by omega) rfl) rfl
  ·have hx : n.kids[i]? = some n.kids[i] := List.getElem?_eq_getElem hi
   have hm := List.getElem_mem hi
   have hs := NodeA.size_lt hm
   have h1 := sum_take (f := NodeA.size) hx
   have h2 := sum_take_le (l := n.kids) (f := NodeA.size) (i := i + 1)
   simp only [lt_t hx, if_true, idx_nat, hx, Option.bind_some, ih _ (show n.kids[i].size ≤ k by omega) (by omega) (by omega)]
   rw [w64s (by omega), w64 (by omega) (by omega), h1]
   congr 2
   omega
  ·simp only [lt_f, Bool.false_eq_true, if_false, List.take_length, hsz]
theorem r08_Size_eq {K : Nat} {n : NodeA} (hK : n.size ≤ K) (hb : n.size ≤ big) : r08_Size K n = some (n.size : Int) := Size_iter K n hK hK hb
theorem lev_eq (n : NodeA) : n.lev = 1 + (n.kids.map NodeA.lev).foldl max 0 := by cases n with | mk o m r ks => rw [NodeA.lev_mk]; rfl
theorem Levels_iter {K : Nat} : ∀ (k : Nat) (n : NodeA), n.size ≤ k → n.size ≤ K → n.size ≤ big → iter k (fun self q => r08_Levels_body K self q) n = some (n.lev : Int) := by
 intro k
 induction k with
 | zero => intro n h; have := n.size_pos; omega
 | succ k ih =>
  intro n h hK hb
  rw [iter_succ]
  generalize iter k (fun self q => r08_Levels_body K self q) = S at ih ⊢
  unfold r08_Levels_body
  have hl := n.kids_lt
  have hll := n.lev_le_size
  have hb' : n.size ≤ 1099511627776 := hb
  refine ob (((n.kids.map NodeA.lev).foldl max 0 : Nat) : Int) (foldG n.kids.length (fun i => (((((n.kids.take i).map NodeA.lev).foldl max 0 : Nat) : Int), (i : Int))) _ (fun g i hi => ?_) (fun g => ?_) (by omega) rfl) ?_
  ·have hx : n.kids[i]? = some n.kids[i] := List.getElem?_eq_getElem hi
   have hm := List.getElem_mem hi
   have hs := NodeA.size_lt hm
   simp only [lt_t hx, if_true, idx_nat, hx, Option.bind_some, ih _ (show n.kids[i].size ≤ k by omega) (by omega) (by omega)]
   rw [w64s (by omega), List.take_add_one, hx]
   congr 2
   simp only [Option.toList_some, List.map_append, List.map_cons, List.map_nil, List.foldl_append, List.foldl_cons, List.foldl_nil]
   split <;> omega
  ·simp only [lt_f, Bool.false_eq_true, if_false, List.take_length]
  ·rw [lev_eq] at hll ⊢
   rw [w64 (by omega) (by omega)]
   congr 1
   omega
theorem r08_Levels_eq {K : Nat} {n : NodeA} (hK : n.size ≤ K) (hb : n.size ≤ big) : r08_Levels K n = some (n.lev : Int) := Levels_iter K n hK hK hb
def Within (n : NodeA) (L v : Int) (r : Bool × Int) : Prop := if (n.size : Int) ≤ L ∧ (n.lev : Int) ≤ v then r = (true, L - n.size) else r.1 = false
theorem foldl_max_le {l : List Nat} {v : Nat} : l.foldl max 0 ≤ v ↔ ∀ x ∈ l, x ≤ v := by
 induction l with
 | nil => simp
 | cons y l ih => rw [List.foldl_cons, foldl_max]; simp only [List.mem_cons, forall_eq_or_imp]; rw [← ih]; omega
theorem within_iter {K : Nat} : ∀ (k : Nat) (n : NodeA) (L v : Int), n.size ≤ k → n.size ≤ K → n.size ≤ big → 0 ≤ L → L ≤ 1000000 → -1000000 ≤ v → v ≤ 1000000 → v - n.size ≥ -1152921504606846976 → ∃ r, iter k (fun self q => tree_within_body K self q.1 q.2.1 q.2.2) (n, L, v) = some r ∧ Within n L v r := by
 intro k
 induction k with
 | zero => intro n L v h; have := n.size_pos; omega
 | succ k ih =>
  intro n L v h hK hb hL hL' hv hv' hvs
  rw [iter_succ]
  generalize iter k (fun self q => tree_within_body K self q.1 q.2.1 q.2.2) = S at ih ⊢
  have hl := n.kids_lt
  have hp := n.size_pos
  have hlv := lev_eq n
  have hsz : n.size = 1 + (n.kids.map NodeA.size).sum := by cases n with | mk o m r ks => rw [NodeA.size_mk]; rfl
  have hb' : n.size ≤ 1099511627776 := hb
  have e1 : IntKind.wrap .i64 (L - 1) = L - 1 := w64 (by omega) (by omega)
  have e2 : IntKind.wrap .i64 (v - 1) = v - 1 := w64 (by omega) (by omega)
  unfold tree_within_body
  simp only [e1, e2]
  by_cases hc : L - 1 < 0 ∨ v ≤ 0
  ·refine ⟨(false, L - 1), ?_, ?_⟩
   ·have : (if decide (L - 1 < 0) = true then some true else some (decide (v ≤ 0))) = some true := by
     rcases hc with h | h
     ·rw [decide_eq_true h]; rfl
     ·rw [decide_eq_true h]; split <;> rfl
    rw [this]; rfl
   ·unfold Within
    rw [if_neg]
    rintro ⟨h1, h2⟩
    rcases hc with h | h <;> omega
  ·have : (if decide (L - 1 < 0) = true then some true else some (decide (v ≤ 0))) = some false := by
    have h1 : decide (L - 1 < 0) = false := by simp; omega
    have h2 : decide (v ≤ 0) = false := by simp; omega
    rw [h1, h2]; rfl
   rw [this]
   simp only [Option.bind_some, Bool.false_eq_true, if_false, Out.fin_go]
   have hlev : (∀ x ∈ n.kids, (x.lev : Int) ≤ v - 1) ↔ (n.lev : Int) ≤ v := by
    rw [hlv]
    constructor
    ·intro hq
     have : (n.kids.map NodeA.lev).foldl max 0 ≤ (v - 1).toNat := foldl_max_le.2 fun x hx => by
      obtain ⟨y, hy, rfl⟩ := List.mem_map.1 hx
      have := hq y hy; omega
     omega
    ·intro hq x hx
     have := foldl_max_le.1 (Nat.le_refl ((n.kids.map NodeA.lev).foldl max 0)) _ (List.mem_map_of_mem hx)
     omega
   refine ex_ob (Exists.imp (fun o ho => ⟨ho.1, ?_⟩) (loopE (fun i (s : Int × Int) => s.1 = i ∧ 0 ≤ s.2 ∧ s.2 ≤ 1000000)
    (fun i s o => if ((((n.kids.drop i).map NodeA.size).sum : Nat) : Int) ≤ s.2 ∧ (∀ x ∈ n.kids.drop i, (x.lev : Int) ≤ v - 1) then o = .go (s.2 - ((((n.kids.drop i).map NodeA.size).sum : Nat) : Int)) else ∃ z, o = .out (false, z))
    n.kids.length (fun g i s hi hj hg => ?_) (fun g s hj => ?_) 0 (0, L - 1) ⟨rfl, by simp only; omega, by simp only; omega⟩ (Nat.zero_le _) (by omega)))
   ·have h2 := ho.2
    rw [List.drop_zero] at h2
    simp only at h2
    by_cases hc3 : ((((n.kids).map NodeA.size).sum : Nat) : Int) ≤ L - 1 ∧ ∀ x ∈ n.kids, (x.lev : Int) ≤ v - 1
    ·rw [if_pos hc3] at h2
     subst h2
     refine ⟨(true, L - n.size), ?_, ?_⟩
     ·simp only [Out.fin_go, hsz]; congr 2; omega
     ·unfold Within; rw [if_pos ⟨by omega, hlev.1 hc3.2⟩]
    ·rw [if_neg hc3] at h2
     obtain ⟨z, rfl⟩ := h2
     refine ⟨(false, z), rfl, ?_⟩
     unfold Within; rw [if_neg fun hq => hc3 ⟨by omega, hlev.2 hq.2⟩]
   ·obtain ⟨s1, M⟩ := s
    obtain ⟨rfl, hM, hM'⟩ := hj
    simp only at hM hM'
    have hx : n.kids[i]? = some n.kids[i] := List.getElem?_eq_getElem hi
    have hm := List.getElem_mem hi
    have hs := NodeA.size_lt hm
    have hbk : n.kids[i].size ≤ big := by unfold big; omega
    obtain ⟨r, hr, hw⟩ := ih n.kids[i] M (v - 1) (by omega) (by omega) hbk hM hM' (by omega) (by omega) (by omega)
    simp only [lt_t hx, if_true, idx_nat, hx, Option.bind_some, hr]
    have hdrop := List.drop_eq_getElem_cons hi
    have hsum : ((n.kids.drop i).map NodeA.size).sum = n.kids[i].size + ((n.kids.drop (i + 1)).map NodeA.size).sum := by rw [hdrop, List.map_cons, List.sum_cons]
    have hall : (∀ x ∈ n.kids.drop i, (x.lev : Int) ≤ v - 1) ↔ (n.kids[i].lev : Int) ≤ v - 1 ∧ ∀ x ∈ n.kids.drop (i + 1), (x.lev : Int) ≤ v - 1 := by rw [hdrop]; exact List.forall_mem_cons
    unfold Within at hw
    by_cases hok : (n.kids[i].size : Int) ≤ M ∧ (n.kids[i].lev : Int) ≤ v - 1
    ·rw [if_pos hok] at hw
     subst hw
     simp only [Bool.not_true, Bool.false_eq_true, if_false]
     rw [w64s (by omega)]
     obtain ⟨o, h1, h2⟩ := hg (((i + 1 : Nat) : Int), M - n.kids[i].size) ⟨rfl, by simp only; omega, by simp only; omega⟩
     simp only at h2
     refine ⟨o, h1, ?_⟩
     by_cases hc2 : ((((n.kids.drop (i + 1)).map NodeA.size).sum : Nat) : Int) ≤ M - n.kids[i].size ∧ ∀ x ∈ n.kids.drop (i + 1), (x.lev : Int) ≤ v - 1
     ·rw [if_pos hc2] at h2
      rw [if_pos ⟨by rw [hsum]; omega, hall.2 ⟨hok.2, hc2.2⟩⟩, h2, hsum]
      congr 1
      omega
     ·rw [if_neg hc2] at h2
      rw [if_neg fun hq => hc2 ⟨by rw [hsum] at hq; omega, (hall.1 hq.2).2⟩]
      exact h2
    ·rw [if_neg hok] at hw
     rw [hw]
     refine ⟨.out (false, r.2), rfl, ?_⟩
     rw [if_neg fun hq => hok ⟨by rw [hsum] at hq; omega, (hall.1 hq.2).1⟩]
     exact ⟨_, rfl⟩
   ·obtain ⟨s1, M⟩ := s
    obtain ⟨rfl, hM, hM'⟩ := hj
    simp only at hM hM'
    refine ⟨.go M, by simp only [lt_f, Bool.false_eq_true, if_false], ?_⟩
    rw [List.drop_length, if_pos ⟨by simpa using hM, fun x hx => by cases hx⟩]; simp
theorem tree_within_eq {K : Nat} {n : NodeA} (hK : n.size ≤ K) (hb : n.size ≤ big) : ∃ r, tree_within K n 4000 60 = some r ∧ Within n 4000 60 r :=
 within_iter K n 4000 60 hK hK hb (by omega) (by omega) (by omega) (by omega) (by unfold big at hb; omega)
/-! ### formed and well -/
abbrev emptyB (s : ByteArray) : Bool := s.toList == (⟨#[]⟩ : ByteArray).toList
theorem emptyB_name {s : ByteArray} (h : emptyB s = true) : nameB s = false := by
 have : s = ⟨#[]⟩ := bytes_eq.1 h
 subst this; rfl
def numC (n : NodeA) : Bool := if n.op == 1 then natS n.num else !(n.num.neg || (decide (0 < (n.num.num.length : Int)) || decide (0 < (n.num.den.length : Int))))
def nameC (n : NodeA) : Bool := if namedS n.op || (n.op == 10 || n.op == 37) then nameB n.name else emptyB n.name
def flowK (kids : List NodeA) (i : Nat) : Bool := (kids[i]?).all fun x => !(x.op != 55 && (x.op != 56 || (i : Int) != ((kids.length - 2 : Nat) : Int))) && (kids.take i).all fun y => !(x.op == 55 && y.name.toList == x.name.toList)
def stC (n : NodeA) (d fd fl : Bool) : Bool :=
 if n.op == 10 || n.op == 37 then decide (n.kids.length ≤ 1)
 else if n.op == 54 then decide (2 ≤ n.kids.length) && (List.range (n.kids.length - 1)).all (flowK n.kids)
 else if n.op == 3 then !(d || (fd || fl))
 else if n.op == 12 then !(d || fl)
 else if n.op == 39 then !(fl || (((n.kids.length : Int) != 1) || !((n.kids[0]?).all diffS)))
 else true
def sortsC (n : NodeA) : List Int :=
 if n.op == 10 || n.op == 37 then List.replicate n.kids.length 1
 else if n.op == 54 then List.replicate (n.kids.length - 1) 4 ++ [2]
 else (sortsS n.op).getD []
def lastC (n : NodeA) : Bool :=
 if n.op == 8 then (n.kids[1]?).all fun x => x.op == 1 && decide (0 < (x.num.num.length : Int))
 else if n.op == 9 then (n.kids[1]?).all fun x => x.op == 1 && (((x.num.num.length : Int) == 0) || ((x.num.num.length : Int) == 1) && (x.num.num[0]?).all fun w => decide (w ≤ 20))
 else true
def okS : NodeA → Bool → Bool → Bool → Bool
 | .mk op name num kids, d, fd, fl =>
  numC (.mk op name num kids) && (nameC (.mk op name num kids) && (stC (.mk op name num kids) d fd fl && ((kids.map fun x => sortS x.op) == sortsC (.mk op name num kids) && ((kids.attach.all fun ⟨k, _⟩ => okS k (d || op == 12) (fd || op == 39) (fl || op == 54)) && lastC (.mk op name num kids)))))
termination_by n => SizeOf.sizeOf n
decreasing_by exact NodeA.size_kid (by assumption)
theorem okS_eq (n : NodeA) (d fd fl : Bool) : okS n d fd fl = (numC n && (nameC n && (stC n d fd fl && ((n.kids.map fun x => sortS x.op) == sortsC n && (n.kids.all (fun k => okS k (d || n.op == 12) (fd || n.op == 39) (fl || n.op == 54)) && lastC n))))) := by
 cases n with
 | mk o m r ks =>
  rw [okS]
  have : (ks.attach.all fun x => match x with | ⟨k, _⟩ => okS k (d || o == 12) (fd || o == 39) (fl || o == 54)) = ks.all (fun k => okS k (d || o == 12) (fd || o == 39) (fl || o == 54)) := by
   rw [Bool.eq_iff_iff]; simp [List.all_eq_true]
  rw [this]; rfl
theorem num_join {K : Nat} {n : NodeA} : (if (n.op == (1 : Int)) then (tree_natural K n.num).bind fun r4 => if (!r4) then outM (some false) else some (.go ()) else
   ((if n.num.neg then some true else if (decide ((0 : Int) < (n.num.num.length : Int))) then some true else some (decide ((0 : Int) < (n.num.den.length : Int)))) : Option Bool).bind (fun v7_0 => if v7_0 then outM (some false) else some (.go ())) : Option (Out Unit Bool)) = some (if numC n then .go () else .out false) := by
 unfold numC
 simp only [tree_natural_eq, Option.bind_some, orO, outM_eq]
 cases (n.op == 1) <;> cases natS n.num <;> cases (n.num.neg || (decide (0 < (n.num.num.length : Int)) || decide (0 < (n.num.den.length : Int)))) <;> rfl
theorem num_join' {K : Nat} {n : NodeA} : (if (n.op == (1 : Int)) then (r08_natural K n.num).bind fun r4 => if (!r4) then outM (some false) else some (.go ()) else
   ((if n.num.neg then some true else if (decide ((0 : Int) < (n.num.num.length : Int))) then some true else some (decide ((0 : Int) < (n.num.den.length : Int)))) : Option Bool).bind (fun v7_0 => if v7_0 then outM (some false) else some (.go ())) : Option (Out Unit Bool)) = some (if numC n then .go () else .out false) := by
 unfold numC
 simp only [r08_natural_eq, Option.bind_some, orO, outM_eq]
 cases (n.op == 1) <;> cases natS n.num <;> cases (n.num.neg || (decide (0 < (n.num.num.length : Int)) || decide (0 < (n.num.den.length : Int)))) <;> rfl
theorem app_one {i : Nat} {x : Int} (h : i ≤ big) : appO 8 (List.replicate i x) [x] = some (List.replicate (i + 1) x) := by
 unfold appO big at *
 rw [if_pos (by simp; omega), List.replicate_succ']
theorem map_eq {n : NodeA} {l : List Int} (hl : n.kids.length = l.length) (q : NodeA → Bool) :
  ((List.range n.kids.length).all fun i => (n.kids[i]?).all fun x => (l[i]?).all fun s => !(sortS x.op != s) && q x) = (((n.kids.map fun x => sortS x.op) == l) && n.kids.all q) := by
 rw [Bool.eq_iff_iff]
 simp only [List.all_eq_true, List.mem_range, Bool.and_eq_true, beq_iff_eq]
 constructor
 ·intro h
  have get : ∀ i (hi : i < n.kids.length), sortS n.kids[i].op = l[i]'(by omega) ∧ q n.kids[i] = true := fun i hi => by
   have := h i hi
   rw [List.getElem?_eq_getElem hi, List.getElem?_eq_getElem (show i < l.length by omega)] at this
   simpa using this
  refine ⟨List.ext_getElem (by simpa using hl) fun i h1 h2 => ?_, fun x hx => ?_⟩
  ·rw [List.getElem_map]; exact (get i (by simpa using h1)).1
  ·obtain ⟨i, hi, rfl⟩ := List.mem_iff_getElem.1 hx
   exact (get i hi).2
 ·rintro ⟨rfl, h⟩ i hi
  have hx : n.kids[i]? = some n.kids[i] := List.getElem?_eq_getElem hi
  simp [hx, h _ (List.getElem_mem hi)]
theorem formed_iter {K : Nat} (hK : 12 < K) : ∀ (k : Nat) (n : NodeA) (at' : Tree_placeA), n.size ≤ k → n.size ≤ K → n.size ≤ big → sortS n.op ≠ 0 →
  iter k (fun self q => tree_formed_body K self q.1 q.2) (n, at') = some (okS n at'.inDiff at'.inFDiff at'.inFlow) := by
 intro k
 induction k with
 | zero => intro n a h; have := n.size_pos; omega
 | succ k ih =>
  intro n a h hK2 hb hsort
  rw [iter_succ, okS_eq]
  generalize iter k (fun self q => tree_formed_body K self q.1 q.2) = S at ih ⊢
  obtain ⟨d, fd, fl⟩ := a
  have hl := n.kids_lt
  have htab := tab hsort
  have hbig : n.size ≤ 1099511627776 := hb
  unfold tree_formed_body
  refine ob _ num_join ?_
  cases hA : numC n with
  | false => rfl
  | true =>
  simp only [if_true, Out.fin_go, tree_shape_eq, Option.bind_some, tree_Name_eq hK, Bool.true_and]
  refine ob (if (namedS n.op && nameB n.name || !namedS n.op && (emptyB n.name || (n.op == 10 || n.op == 37))) then .go () else .out false) ?_ ?_
  ·have e10 : (n.op != 10) = !(n.op == 10) := rfl
   have e37 : (n.op != 37) = !(n.op == 37) := rfl
   rw [e10, e37]
   generalize (n.op == 10) = b10
   generalize (n.op == 37) = b37
   have : (n.name.toList == (⟨#[]⟩ : ByteArray).toList) = emptyB n.name := rfl
   rw [this]
   cases namedS n.op <;> cases nameB n.name <;> cases emptyB n.name <;> cases b10 <;> cases b37 <;> rfl
  cases hB : (namedS n.op && nameB n.name || !namedS n.op && (emptyB n.name || (n.op == 10 || n.op == 37))) with
  | false =>
   have : nameC n = false := by
    unfold nameC
    revert hB
    cases namedS n.op <;> cases nameB n.name <;> cases emptyB n.name <;> cases (n.op == 10 || n.op == 37) <;> simp
   rw [this]; rfl
  | true =>
  simp only [if_true, Out.fin_go]
  -- the places
  refine ob (if (!(n.op == 10 || n.op == 37) || nameB n.name) && stC n d fd fl then .go (sortsC n, (⟨d || n.op == 12, fd || n.op == 39, fl || n.op == 54⟩ : Tree_placeA)) else .out false) ?_ ?_
  ·by_cases h10 : (n.op == 10 || n.op == 37) = true
   ·obtain ⟨hs0, hn0⟩ := htab.2.2.2.1 (by rw [h10]; rfl)
    have o12 : (n.op == 12) = false := by rw [Bool.eq_false_iff]; intro hc; simp at hc h10; omega
    have o39 : (n.op == 39) = false := by rw [Bool.eq_false_iff]; intro hc; simp at hc h10; omega
    have o54 : (n.op == 54) = false := by rw [Bool.eq_false_iff]; intro hc; simp at hc h10; omega
    have e : stC n d fd fl = decide (n.kids.length ≤ 1) := by unfold stC; rw [if_pos h10]
    have e2 : sortsC n = List.replicate n.kids.length 1 := by unfold sortsC; rw [if_pos h10]
    rw [e, e2, o12, o39, o54, h10, Bool.not_true, Bool.false_or, Bool.or_false, Bool.or_false, Bool.or_false]
    simp only [orO', h10, Option.bind_some, if_true]
    cases hnm : nameB n.name with
    | false => rfl
    | true =>
     by_cases h1 : n.kids.length ≤ 1
     ·have hd : decide ((1 : Int) < (n.kids.length : Int)) = false := by simp; omega
      simp only [Bool.not_true, Bool.false_eq_true, if_false, hd, Option.bind_some, Out.fin_go, hs0, Option.isNone_none, must, if_true, Bool.true_and, decide_eq_true h1]
      refine ob _ (foldG n.kids.length (fun i => ((i : Int), List.replicate i (1 : Int))) (List.replicate n.kids.length 1) (fun g i hi => ?_) (fun g => ?_) (by omega) rfl) rfl
      ·have hx : n.kids[i]? = some n.kids[i] := List.getElem?_eq_getElem hi
       simp only [lt_t hx, if_true, app_one (show i ≤ big by unfold big; omega), Option.bind_some]
       rw [w64s (by omega)]
      ·simp only [lt_f, Bool.false_eq_true, if_false]
     ·have hd : decide ((1 : Int) < (n.kids.length : Int)) = true := by simp; omega
      have hd2 : decide (n.kids.length ≤ 1) = false := by simp; omega
      simp only [Bool.not_true, Bool.false_eq_true, if_false, hd, Option.bind_some, hd2, Bool.and_false]
      rfl
   ·have h10' : (n.op == 10 || n.op == 37) = false := by simpa using h10
    rw [h10', Bool.not_false, Bool.true_or, Bool.true_and]
    simp only [orO', h10', Option.bind_some, Bool.false_eq_true, if_false]
    by_cases h54 : (n.op == 54) = true
    ·obtain ⟨hs0, hn0⟩ := htab.2.2.2.1 (by rw [h54]; simp)
     have o12 : (n.op == 12) = false := by rw [Bool.eq_false_iff]; intro hc; simp at hc h54; omega
     have o39 : (n.op == 39) = false := by rw [Bool.eq_false_iff]; intro hc; simp at hc h54; omega
     have e : stC n d fd fl = (decide (2 ≤ n.kids.length) && (List.range (n.kids.length - 1)).all (flowK n.kids)) := by unfold stC; rw [h10', h54]; rfl
     have e2 : sortsC n = List.replicate (n.kids.length - 1) 4 ++ [2] := by unfold sortsC; rw [h10', h54]; rfl
     have he : emptyB n.name = true := by
      revert hB; rw [hn0, h10']; simp
     have he' : (n.name.toList == (⟨#[]⟩ : ByteArray).toList) = true := he
     rw [e, e2, o12, o39, h54, Bool.or_true, Bool.or_false, Bool.or_false]
     simp only [if_true, he', Bool.not_true, Bool.false_eq_true, if_false]
     by_cases h2 : 2 ≤ n.kids.length
     ·have hd : decide ((n.kids.length : Int) < 2) = false := by simp; omega
      have e3 : IntKind.wrap .i64 ((n.kids.length : Int) - 1) = ((n.kids.length - 1 : Nat) : Int) := by rw [w64 (by omega) (by omega)]; omega
      have e4 : IntKind.wrap .i64 (((n.kids.length - 1 : Nat) : Int) - 1) = ((n.kids.length - 2 : Nat) : Int) := by rw [w64 (by omega) (by omega)]; omega
      simp only [hd, Bool.false_eq_true, if_false, Option.bind_some, Out.fin_go, hs0, Option.isNone_none, must, if_true, e3, e4, decide_eq_true h2, Bool.true_and]
      refine ob _ (scanG (n.kids.length - 1) (fun i => ((i : Int), List.replicate i (4 : Int))) (flowK n.kids) (Out.out false : Out (List Int × Tree_placeA) Bool) (List.replicate (n.kids.length - 1) 4) (fun g i hi => ?_) (fun g => ?_) (by omega) rfl) ?_
      ·have hi' : i < n.kids.length := by omega
       have hx : n.kids[i]? = some n.kids[i] := List.getElem?_eq_getElem hi'
       have hd : decide ((i : Int) < ((n.kids.length - 1 : Nat) : Int)) = true := by simp; omega
       have hcut : cutL n.kids none (some (i : Int)) = some (n.kids.take i) := by
        unfold cutL; simp only [Option.getD_some, Option.getD_none]
        rw [if_pos (by omega)]; simp
       simp only [hd, if_true, idx_nat, hx, Option.bind_some, hcut]
       have hC : flowK n.kids i = (!(n.kids[i].op != 55 && (n.kids[i].op != 56 || (i : Int) != ((n.kids.length - 2 : Nat) : Int))) && (n.kids.take i).all fun y => !(n.kids[i].op == 55 && y.name.toList == n.kids[i].name.toList)) := by unfold flowK; rw [hx]; rfl
       rw [hC, w64s (by omega)]
       simp only [orO, andO, Option.bind_some]
       refine ob (if (!(n.kids[i].op != 55 && (n.kids[i].op != 56 || (i : Int) != ((n.kids.length - 2 : Nat) : Int))) && (n.kids.take i).all fun y => !(n.kids[i].op == 55 && y.name.toList == n.kids[i].name.toList)) then .go (List.replicate (i + 1) 4) else .out (.out (.out false))) ?_ ?_
       ·cases hb : (n.kids[i].op != 55 && (n.kids[i].op != 56 || (i : Int) != ((n.kids.length - 2 : Nat) : Int))) with
        | true => rfl
        | false =>
         simp only [Option.bind_some, Bool.false_eq_true, if_false, Out.fin_go, Bool.not_false, Bool.true_and]
         have hti : (n.kids.take i).length = i := by rw [List.length_take]; omega
         refine ob _ (scanG (n.kids.take i).length (fun j => (j : Int)) (fun j => ((n.kids.take i)[j]?).all fun y => !(n.kids[i].op == 55 && y.name.toList == n.kids[i].name.toList)) (.out (.out (.out false))) () (fun g' j hj => ?_) (fun g' => ?_) (by omega) rfl) ?_
         ·have hy : (n.kids.take i)[j]? = some (n.kids.take i)[j] := List.getElem?_eq_getElem hj
          simp only [lt_t hy, if_true, idx_nat, hy, Option.bind_some, Option.all_some]
          rw [w64s (by omega)]
          cases (n.kids[i].op == 55 && (n.kids.take i)[j].name.toList == n.kids[i].name.toList) <;> rfl
         ·simp only [lt_f, Bool.false_eq_true, if_false]
         ·rw [range_all]
          cases ((n.kids.take i).all fun y => !(n.kids[i].op == 55 && y.name.toList == n.kids[i].name.toList)) with
          | false => rfl
          | true => simp only [if_true, Out.fin_go, app_one (show i ≤ big by unfold big; omega), Option.bind_some]
       ·cases (!(n.kids[i].op != 55 && (n.kids[i].op != 56 || (i : Int) != ((n.kids.length - 2 : Nat) : Int))) && (n.kids.take i).all fun y => !(n.kids[i].op == 55 && y.name.toList == n.kids[i].name.toList)) <;> rfl
      ·have hd : decide (((n.kids.length - 1 : Nat) : Int) < ((n.kids.length - 1 : Nat) : Int)) = false := by simp
       simp only [hd, Bool.false_eq_true, if_false]
      ·cases (List.range (n.kids.length - 1)).all (flowK n.kids) with
       | false => rfl
       | true =>
        simp only [if_true, Out.fin_go, appO]
        rw [if_pos (by simp; omega)]; rfl
     ·have hd : decide ((n.kids.length : Int) < 2) = true := by simp; omega
      have hd2 : decide (2 ≤ n.kids.length) = false := by simp; omega
      simp only [hd, hd2, if_true, Option.bind_some, Bool.false_and]
      rfl
    ·have h54' : (n.op == 54) = false := by simpa using h54
     have e2 : sortsC n = (sortsS n.op).getD [] := by unfold sortsC; rw [h10', h54']; rfl
     have e1 : stC n d fd fl = if n.op == 3 then !(d || (fd || fl)) else if n.op == 12 then !(d || fl) else if n.op == 39 then !(fl || (((n.kids.length : Int) != 1) || !((n.kids[0]?).all diffS))) else true := by
      unfold stC; rw [h10', h54']; rfl
     rw [e1, e2, h54', Bool.or_false]
     simp only [Bool.false_eq_true, if_false]
     by_cases h3 : (n.op == 3) = true
     ·have o12 : (n.op == 12) = false := by rw [Bool.eq_false_iff]; intro hc; simp at hc h3; omega
      have o39 : (n.op == 39) = false := by rw [Bool.eq_false_iff]; intro hc; simp at hc h3; omega
      simp only [h3, o12, o39, if_true, Bool.or_false]
      cases d <;> cases fd <;> cases fl <;> rfl
     have h3' : (n.op == 3) = false := by simpa using h3
     by_cases h12 : (n.op == 12) = true
     ·have o39 : (n.op == 39) = false := by rw [Bool.eq_false_iff]; intro hc; simp at hc h12; omega
      simp only [h3', h12, o39, if_true, Bool.or_false, Bool.or_true, Bool.false_eq_true, if_false]
      cases d <;> cases fd <;> cases fl <;> rfl
     have h12' : (n.op == 12) = false := by simpa using h12
     by_cases h39 : (n.op == 39) = true
     ·simp only [h3', h12', h39, if_true, Bool.or_false, Bool.or_true, Bool.false_eq_true, if_false]
      cases fl with
      | true => rfl
      | false =>
       by_cases hk : n.kids.length = 1
       ·have hx : n.kids[0]? = some n.kids[0] := List.getElem?_eq_getElem (by omega)
        have hm : n.kids[0] ∈ n.kids := List.getElem_mem (by omega)
        have hs := NodeA.size_lt hm
        have i0 : idx n.kids 0 = some n.kids[0] := by rw [← hx]; exact idx_nat (k := 0)
        have e : ((n.kids.length : Int) != 1) = false := by simp [hk]
        simp only [e, Bool.false_eq_true, if_false, i0, hx, Option.bind_some, Option.all_some, tree_differentiable_eq (show n.kids[0].size ≤ K by omega) (show n.kids[0].size ≤ 4611686018427387904 by omega)]
        cases diffS n.kids[0] <;> cases d <;> cases fd <;> rfl
       ·have e : ((n.kids.length : Int) != 1) = true := by simp; omega
        simp only [e, Bool.false_eq_true, if_false, if_true, Bool.false_or, Bool.true_or]
        rfl
     have h39' : (n.op == 39) = false := by simpa using h39
     simp only [h3', h12', h39', Bool.false_eq_true, if_false, if_true, Bool.or_false]
  cases hC : ((!(n.op == 10 || n.op == 37) || nameB n.name) && stC n d fd fl) with
  | false =>
   have : (nameC n && stC n d fd fl) = false := by
    unfold nameC
    revert hB hC
    cases namedS n.op <;> cases nameB n.name <;> cases emptyB n.name <;> cases (n.op == 10 || n.op == 37) <;> cases stC n d fd fl <;> simp
   rw [← Bool.and_assoc, this]; rfl
  | true =>
  have hN : nameC n = true := by
   unfold nameC
   revert hB hC
   cases namedS n.op <;> cases nameB n.name <;> cases emptyB n.name <;> cases (n.op == 10 || n.op == 37) <;> simp
  have hS : stC n d fd fl = true := by
   revert hC; cases stC n d fd fl <;> simp
  rw [hN, hS]
  simp only [if_true, Out.fin_go, Bool.true_and]
  have hne : ∀ s ∈ sortsC n, s ≠ 0 := by
   unfold sortsC
   split
   ·intro s hs; have := List.eq_of_mem_replicate hs; omega
   ·split
    ·intro s hs
     rcases List.mem_append.1 hs with hs | hs
     ·have := List.eq_of_mem_replicate hs; omega
     ·have := List.mem_singleton.1 hs; omega
    ·exact htab.2.2.2.2.2.2.2
  by_cases hlen : n.kids.length = (sortsC n).length
  ·have e : ((n.kids.length : Int) != ((sortsC n).length : Int)) = false := by rw [hlen]; simp
   simp only [e, Bool.false_eq_true, if_false]
   refine ob (if ((n.kids.map fun x => sortS x.op) == sortsC n && n.kids.all (fun k => okS k (d || n.op == 12) (fd || n.op == 39) (fl || n.op == 54))) then .go () else .out false) ?_ ?_
   ·rw [← map_eq hlen (fun k => okS k (d || n.op == 12) (fd || n.op == 39) (fl || n.op == 54))]
    refine scanG n.kids.length (fun i => (i : Int)) _ false () (fun g i hi => ?_) (fun g => ?_) (by omega) rfl
    ·have hx : n.kids[i]? = some n.kids[i] := List.getElem?_eq_getElem hi
     have hm := List.getElem_mem hi
     have hs := NodeA.size_lt hm
     have hbk : n.kids[i].size ≤ big := by unfold big; omega
     have hy : (sortsC n)[i]? = some ((sortsC n)[i]'(by omega)) := List.getElem?_eq_getElem (by omega)
     have hy0 := hne _ (List.getElem_mem (show i < (sortsC n).length by omega))
     simp only [lt_t hx, if_true, idx_nat, hx, hy, Option.bind_some, tree_Sort_eq, Option.all_some]
     generalize (sortsC n)[i]'(by omega) = s at hy0
     by_cases hq : sortS n.kids[i].op = s
     ·have e1 : (sortS n.kids[i].op != s) = false := by simp [hq]
      simp only [e1, Bool.false_eq_true, if_false, Bool.not_false, Bool.true_and, ih n.kids[i] ⟨d || n.op == 12, fd || n.op == 39, fl || n.op == 54⟩ (by omega) (by omega) hbk (by rw [hq]; exact hy0), Option.bind_some]
      rw [w64s (by omega)]
      cases okS n.kids[i] (d || n.op == 12) (fd || n.op == 39) (fl || n.op == 54) <;> rfl
     ·have e1 : (sortS n.kids[i].op != s) = true := by simp [hq]
      simp only [e1, if_true, Bool.not_true, Bool.false_and]
      rfl
    ·simp only [lt_f, Bool.false_eq_true, if_false]
   ·rw [← Bool.and_assoc ((n.kids.map fun x => sortS x.op) == sortsC n)]
    cases hD : ((n.kids.map fun x => sortS x.op) == sortsC n && n.kids.all (fun k => okS k (d || n.op == 12) (fd || n.op == 39) (fl || n.op == 54))) with
    | false => rfl
    | true =>
     simp only [if_true, Out.fin_go, Bool.true_and]
     unfold lastC
     by_cases h89 : (n.op == 8 || n.op == 9) = true
     ·have a10 : (n.op == 10 || n.op == 37) = false := by rw [Bool.eq_false_iff]; intro hc; simp at hc h89; omega
      have a54 : (n.op == 54) = false := by rw [Bool.eq_false_iff]; intro hc; simp at hc h89; omega
      have h2 : n.kids.length = 2 := by
       rw [hlen]; unfold sortsC
       rw [a10, a54, htab.2.2.2.2.2.1 h89]; rfl
      have hx : n.kids[1]? = some n.kids[1] := List.getElem?_eq_getElem (by omega)
      have i1 : idx n.kids 1 = some n.kids[1] := by rw [← hx]; exact idx_nat (k := 1)
      simp only [i1, hx, Option.bind_some, Option.all_some]
      cases (n.op == 8) with
      | true => cases (n.kids[1].op == 1) <;> rfl
      | false =>
       cases (n.op == 9) with
       | false => rfl
       | true =>
        simp only [Bool.false_eq_true, if_false, if_true]
        cases (n.kids[1].op == 1) with
        | false => rfl
        | true =>
         simp only [if_true, Bool.true_and]
         by_cases h0 : n.kids[1].num.num.length = 0
         ·rw [int_eq0 h0]; rfl
         ·have hw : n.kids[1].num.num[0]? = some n.kids[1].num.num[0] := List.getElem?_eq_getElem (by omega)
          have i0 : idx n.kids[1].num.num 0 = some n.kids[1].num.num[0] := by rw [← hw]; exact idx_nat (k := 0)
          simp only [int_ne0 h0, Bool.false_eq_true, if_false, Bool.false_or, i0, hw, Option.bind_some, Option.all_some, andO]
     ·have h8 : (n.op == 8) = false := by revert h89; cases (n.op == 8) <;> simp
      have h9 : (n.op == 9) = false := by revert h89; cases (n.op == 9) <;> simp
      rw [h8, h9]; rfl
  ·have e : ((n.kids.length : Int) != ((sortsC n).length : Int)) = true := by simp; omega
   have e2 : ((n.kids.map fun x => sortS x.op) == sortsC n) = false := by
    rw [beq_eq_false_iff_ne]; intro hq; apply hlen; rw [← hq]; simp
   rw [e, e2]; rfl
theorem okS_fl : ∀ n d fd, okS n d fd true = (okS n d fd false && !primS n) := by
 refine NodeA.ind fun n ih d fd => ?_
 rw [okS_eq n d fd true, okS_eq n d fd false, primS_eq]
 have hk : n.kids.all (fun k => okS k (d || n.op == 12) (fd || n.op == 39) true) = (n.kids.all (fun k => okS k (d || n.op == 12) (fd || n.op == 39) false) && !n.kids.any primS) := by
  rw [Bool.eq_iff_iff, Bool.and_eq_true, List.all_eq_true, List.all_eq_true, Bool.not_eq_true', List.any_eq_false]
  constructor
  ·intro h
   refine ⟨fun x hx => ?_, fun x hx => ?_⟩ <;> (have := h x hx; rw [ih x hx] at this; revert this; cases okS x (d || n.op == 12) (fd || n.op == 39) false <;> cases primS x <;> simp)
  ·rintro ⟨h1, h2⟩ x hx
   rw [ih x hx, h1 x hx]
   have := h2 x hx
   revert this; cases primS x <;> simp
 have hst : stC n d fd true = (stC n d fd false && !(n.op == 3 || (n.op == 12 || n.op == 39))) := by
  unfold stC
  by_cases h1 : (n.op == 10 || n.op == 37) = true
  ·have a3 : (n.op == 3) = false := by rw [Bool.eq_false_iff]; intro hc; simp at hc h1; omega
   have a12 : (n.op == 12) = false := by rw [Bool.eq_false_iff]; intro hc; simp at hc h1; omega
   have a39 : (n.op == 39) = false := by rw [Bool.eq_false_iff]; intro hc; simp at hc h1; omega
   simp [h1, a3, a12, a39]
  ·have h1' : (n.op == 10 || n.op == 37) = false := by simpa using h1
   by_cases h2 : (n.op == 54) = true
   ·have a3 : (n.op == 3) = false := by rw [Bool.eq_false_iff]; intro hc; simp at hc h2; omega
    have a12 : (n.op == 12) = false := by rw [Bool.eq_false_iff]; intro hc; simp at hc h2; omega
    have a39 : (n.op == 39) = false := by rw [Bool.eq_false_iff]; intro hc; simp at hc h2; omega
    rw [h1', h2, a3, a12, a39]; simp
   ·have h2' : (n.op == 54) = false := by simpa using h2
    rw [h1', h2']
    cases (n.op == 3) <;> cases (n.op == 12) <;> cases (n.op == 39) <;> simp
 have hfl : (fun k => okS k (d || n.op == 12) (fd || n.op == 39) (true || n.op == 54)) = fun k => okS k (d || n.op == 12) (fd || n.op == 39) true := by funext k; rw [Bool.true_or]
 rw [hfl, hst]
 by_cases h54 : (n.op == 54) = true
 ·have a3 : (n.op == 3) = false := by rw [Bool.eq_false_iff]; intro hc; simp at hc h54; omega
  have a12 : (n.op == 12) = false := by rw [Bool.eq_false_iff]; intro hc; simp at hc h54; omega
  have a39 : (n.op == 39) = false := by rw [Bool.eq_false_iff]; intro hc; simp at hc h54; omega
  simp only [a12, a39, Bool.or_false] at hk
  simp only [h54, a3, a12, a39, Bool.or_true, Bool.or_false, Bool.not_false, Bool.and_true, Bool.false_or, hk]
  cases numC n <;> cases nameC n <;> cases stC n d fd false <;> cases ((n.kids.map fun x => sortS x.op) == sortsC n) <;> cases (n.kids.all fun k => okS k d fd false) <;> cases n.kids.any primS <;> cases lastC n <;> rfl
 ·have h54' : (n.op == 54) = false := by simpa using h54
  rw [h54', hk]
  simp only [Bool.or_false]
  cases numC n <;> cases nameC n <;> cases stC n d fd false <;> cases ((n.kids.map fun x => sortS x.op) == sortsC n) <;> cases (n.kids.all fun k => okS k (d || n.op == 12) (fd || n.op == 39) false) <;> cases n.kids.any primS <;> cases lastC n <;> cases (n.op == 3 || (n.op == 12 || n.op == 39)) <;> rfl
theorem Natural_eq {K : Nat} {r : RatA} (hw : r.words) : ∃ z, r08_Natural K r 20 = some z ∧ decide (0 ≤ z) = (((r.num.length : Int) == 0) || ((r.num.length : Int) == 1) && (r.num[0]?).all fun w => decide (w ≤ 20)) := by
 unfold r08_Natural
 by_cases h0 : r.num.length = 0
 ·have e : ((r.num.length : Int) == 0) = true := by simp [h0]
  exact ⟨0, by rw [e]; rfl, by rw [e]; rfl⟩
 have e : ((r.num.length : Int) == 0) = false := int_ne0 h0
 have hx : r.num[0]? = some r.num[0] := List.getElem?_eq_getElem (by omega)
 have i0 : idx r.num 0 = some r.num[0] := by rw [← hx]; exact idx_nat (k := 0)
 have hb := hw.1 r.num[0] (List.getElem_mem (by omega))
 have ew : IntKind.wrap .i64 r.num[0] = r.num[0] := w64 (by omega) (by omega)
 simp only [e, Bool.false_eq_true, if_false, i0, hx, Option.bind_some, ew, Option.all_some, Bool.false_or]
 by_cases h1 : r.num.length = 1
 ·have e1 : decide ((1 : Int) < (r.num.length : Int)) = false := by simp; omega
  have e2 : ((r.num.length : Int) == 1) = true := by simp [h1]
  simp only [e1, e2, Bool.false_eq_true, if_false, Option.bind_some, Bool.true_and]
  by_cases h2 : r.num[0] ≤ 20
  ·have e3 : decide ((20 : Int) < r.num[0]) = false := by simp; omega
   refine ⟨r.num[0], by rw [e3]; rfl, ?_⟩
   rw [decide_eq_true h2, decide_eq_true hb.1]
  ·have e3 : decide ((20 : Int) < r.num[0]) = true := by simp; omega
   refine ⟨-1, by rw [e3]; rfl, ?_⟩
   rw [decide_eq_false h2]; rfl
 ·have e1 : decide ((1 : Int) < (r.num.length : Int)) = true := by simp; omega
  have e2 : ((r.num.length : Int) == 1) = false := by simp; omega
  refine ⟨-1, by rw [e1]; rfl, ?_⟩
  rw [e2]; rfl
theorem flow_eq {n : NodeA} (h54 : n.op = 54) (t f : Bool) :
  (decide (2 ≤ n.kids.length) && (!n.kids.any primS && ((n.kids[n.kids.length - 1]?).all (fun x => sortS x.op == 2 && okS x t f false) && (List.range (n.kids.length - 1)).all fun i => (n.kids[i]?).all fun x =>
   !(x.op == 56 && decide ((i : Int) < ((n.kids.length - 2 : Nat) : Int)) || (x.op != 56 && x.op != 55 || !(sortS x.op == 4 && okS x t f false))) && (n.kids.take i).all fun y => !(x.op == 55 && y.name.toList == x.name.toList)))) =
  (stC n t f false && ((n.kids.map fun x => sortS x.op) == sortsC n && n.kids.all fun k => okS k t f true)) := by
 have e1 : (n.op == 10 || n.op == 37) = false := by rw [h54]; rfl
 have e2 : (n.op == 54) = true := by rw [h54]; rfl
 unfold stC sortsC
 rw [e1, e2]
 simp only [Bool.false_eq_true, if_false, if_true]
 by_cases h2 : 2 ≤ n.kids.length
 ·rw [decide_eq_true h2, Bool.true_and, Bool.true_and, Bool.eq_iff_iff]
  have hl : n.kids.length - 1 < n.kids.length := by omega
  rw [List.getElem?_eq_getElem hl, Option.all_some]
  simp only [Bool.and_eq_true, List.all_eq_true, Bool.not_eq_true', List.any_eq_false, List.mem_range, okS_fl]
  have hget : ∀ i (hi : i < n.kids.length), n.kids[i]? = some n.kids[i] := fun i hi => List.getElem?_eq_getElem hi
  have hmap : ((n.kids.map fun x => sortS x.op) == List.replicate (n.kids.length - 1) 4 ++ [2]) = true ↔ (sortS n.kids[n.kids.length - 1].op = 2 ∧ ∀ i (hi : i < n.kids.length - 1), sortS (n.kids[i]'(by omega)).op = 4) := by
   rw [beq_iff_eq]
   constructor
   ·intro h
    have hg : ∀ i (hi : i < n.kids.length), sortS n.kids[i].op = (List.replicate (n.kids.length - 1) (4 : Int) ++ [2])[i]'(by simp; omega) := fun i hi => by
     have : (n.kids.map fun x => sortS x.op)[i]'(by simpa using hi) = sortS n.kids[i].op := by simp
     rw [← this]
     congr 1
    refine ⟨?_, fun i hi => ?_⟩
    ·rw [hg _ hl, List.getElem_append_right (by simp)]; simp
    ·rw [hg i (by omega), List.getElem_append_left (by simpa using hi)]; simp
   ·rintro ⟨h3, h4⟩
    refine List.ext_getElem (by simp; omega) fun i hi1 hi2 => ?_
    rw [List.getElem_map]
    by_cases hi : i < n.kids.length - 1
    ·rw [List.getElem_append_left (by simpa using hi), List.getElem_replicate]; exact h4 i hi
    ·have : i = n.kids.length - 1 := by simp at hi1; omega
     subst this
     rw [List.getElem_append_right (by simp)]; simpa using h3
  rw [hmap]
  constructor
  ·rintro ⟨hp, ⟨hs, ho⟩, hall⟩
   have at' : ∀ i (hi : i < n.kids.length - 1), (!(n.kids[i].op == 56 && decide ((i : Int) < ((n.kids.length - 2 : Nat) : Int)) || (n.kids[i].op != 56 && n.kids[i].op != 55 || !(sortS n.kids[i].op == 4 && okS n.kids[i] t f false)))) = true ∧ ∀ y ∈ n.kids.take i, (n.kids[i].op == 55 && y.name.toList == n.kids[i].name.toList) = false := fun i hi => by
    have := hall i hi
    rw [hget i (by omega), Option.all_some] at this
    simpa only [Bool.and_eq_true, List.all_eq_true, Bool.not_eq_true'] using this
   refine ⟨fun i hi => ?_, ⟨by simpa using hs, fun i hi => ?_⟩, fun x hx => ?_⟩
   ·obtain ⟨h3, h4⟩ := at' i hi
    unfold flowK
    rw [hget i (by omega), Option.all_some, Bool.and_eq_true]
    refine ⟨?_, ?_⟩
    ·simp at h3 ⊢; omega
    ·simp only [List.all_eq_true, Bool.not_eq_true']; exact h4
   ·obtain ⟨h3, _⟩ := at' i hi
    simp at h3; exact h3.2.2.1
   ·obtain ⟨i, hi, rfl⟩ := List.mem_iff_getElem.1 hx
    refine ⟨?_, by simpa using hp _ hx⟩
    by_cases hi' : i < n.kids.length - 1
    ·obtain ⟨h3, _⟩ := at' i hi'
     simp at h3; exact h3.2.2.2
    ·have : i = n.kids.length - 1 := by omega
     subst this; exact ho
  ·rintro ⟨hf, ⟨hs, h4⟩, hk⟩
   refine ⟨fun x hx => by have := (hk x hx).2; simp [this], ⟨by simpa using hs, (hk _ (List.getElem_mem hl)).1⟩, fun i hi => ?_⟩
   have := hf i hi
   unfold flowK at this
   rw [hget i (by omega), Option.all_some] at this ⊢
   simp only [Bool.and_eq_true, List.all_eq_true, Bool.not_eq_true'] at this ⊢
   refine ⟨?_, this.2⟩
   have h5 := (hk _ (List.getElem_mem (show i < n.kids.length by omega))).1
   have h6 := h4 i hi
   have h7 := this.1
   simp at h7 ⊢
   refine ⟨by omega, by omega, h6, h5⟩
 ·rw [decide_eq_false h2]; rfl
def kidV (n : NodeA) : ByteArray := if (n.op == 10 || n.op == 37) then (if ((n.kids.length : Int) == 1) then ⟨#[49]⟩ else kidB n.op) else kidB n.op
def digs (v : ByteArray) : List Int := v.toList.map fun c => (c.toNat : Int) - 48
def lastW (n : NodeA) : Bool := if n.op == 39 then (n.kids[0]?).all diffS else lastC n
theorem size_toList (v : ByteArray) : v.toList.length = v.size := by rw [bytes_toList]; exact Array.length_toList
theorem strAt_list {v : ByteArray} {i : Nat} (h : i < v.size) : ∃ c : UInt8, strAt v (i : Int) = some c ∧ v.toList[i]? = some c := by
 refine ⟨v[i], (strAt_get h).1, ?_⟩
 rw [bytes_toList, Array.getElem?_toList]
 exact Array.getElem?_eq_getElem h
theorem kidV_ok {n : NodeA} (hs : sortS n.op ≠ 0) : (∀ c ∈ (kidV n).toList, 48 ≤ c.toNat ∧ c.toNat ≤ 57) ∧ (∀ z ∈ digs (kidV n), z ≠ 0) := by
 have htab := tab hs
 have h1 : ∀ c ∈ (⟨#[49]⟩ : ByteArray).toList, c = 49 := by
  intro c hc; rw [bytes_toList] at hc; exact List.mem_singleton.1 hc
 have hk : ∀ z ∈ digs (kidB n.op), z ≠ 0 := by unfold digs; rw [htab.2.1]; exact htab.2.2.2.2.2.2.2
 unfold kidV
 split
 ·split
  ·refine ⟨fun c hc => by rw [h1 c hc]; decide, fun z hz => ?_⟩
   unfold digs at hz
   obtain ⟨c, hc, rfl⟩ := List.mem_map.1 hz
   rw [h1 c hc]; decide
  ·exact ⟨htab.2.2.1, hk⟩
 ·exact ⟨htab.2.2.1, hk⟩
theorem well_side {n : NodeA} {t f : Bool} (hs : sortS n.op ≠ 0) (h54 : (n.op == 54) = false) (hC : (t && n.op == 12 || (t || f) && n.op == 3) = false) (A : Bool) :
  (stC n t f false && ((n.kids.map fun x => sortS x.op) == sortsC n && (A && lastC n))) = ((n.kids.map fun x => sortS x.op) == digs (kidV n) && (A && lastW n)) := by
 have htab := tab hs
 by_cases h10 : (n.op == 10 || n.op == 37) = true
 ·obtain ⟨hs0, hn0⟩ := htab.2.2.2.1 (by rw [h10]; rfl)
  have a39 : (n.op == 39) = false := by rw [Bool.eq_false_iff]; intro hc; simp at hc h10; omega
  have hk : digs (kidB n.op) = [] := by unfold digs; rw [htab.2.1, hs0]; rfl
  have e1 : stC n t f false = decide (n.kids.length ≤ 1) := by unfold stC; rw [if_pos h10]
  have e2 : sortsC n = List.replicate n.kids.length 1 := by unfold sortsC; rw [if_pos h10]
  have e3 : lastW n = lastC n := by unfold lastW; rw [a39]; rfl
  rw [e1, e2, e3]
  unfold kidV
  rw [if_pos h10]
  by_cases h1 : n.kids.length = 1
  ·have : ((n.kids.length : Int) == 1) = true := by simp [h1]
   rw [this, if_pos rfl, h1]
   have : digs ⟨#[49]⟩ = [1] := by unfold digs; rw [bytes_toList]; rfl
   rw [this]; rfl
  ·have : ((n.kids.length : Int) == 1) = false := by rw [beq_eq_false_iff_ne]; omega
   rw [this]
   simp only [Bool.false_eq_true, if_false, hk]
   by_cases h0 : n.kids.length = 0
   ·rw [h0]; rfl
   ·have e : decide (n.kids.length ≤ 1) = false := by simp; omega
    have : ((n.kids.map fun x => sortS x.op) == ([] : List Int)) = false := by
     rw [beq_eq_false_iff_ne]; intro hq; apply h0; simpa using congrArg List.length hq
    rw [e, this]; rfl
 ·have h10' : (n.op == 10 || n.op == 37) = false := by simpa using h10
  have e2 : sortsC n = digs (kidV n) := by
   unfold sortsC kidV digs; rw [h10', h54]; exact htab.2.1.symm
  rw [e2]
  have e1 : stC n t f false = if n.op == 39 then !(((n.kids.length : Int) != 1) || !((n.kids[0]?).all diffS)) else true := by
   unfold stC
   rw [h10', h54]
   by_cases h3 : (n.op == 3) = true
   ·have a39 : (n.op == 39) = false := by rw [Bool.eq_false_iff]; intro hc; simp at hc h3; omega
    have a12 : (n.op == 12) = false := by rw [Bool.eq_false_iff]; intro hc; simp at hc h3; omega
    rw [h3, a12] at hC
    rw [h3, a39]
    revert hC; cases t <;> cases f <;> simp
   ·have h3' : (n.op == 3) = false := by simpa using h3
    by_cases h12 : (n.op == 12) = true
    ·have a39 : (n.op == 39) = false := by rw [Bool.eq_false_iff]; intro hc; simp at hc h12; omega
     rw [h3', h12] at hC
     rw [h3', h12, a39]
     revert hC; cases t <;> simp
    ·have h12' : (n.op == 12) = false := by simpa using h12
     rw [h3', h12']; simp
  rw [e1]
  by_cases h39 : (n.op == 39) = true
  ·have hlast : lastC n = true := by
    unfold lastC
    have a8 : (n.op == 8) = false := by rw [Bool.eq_false_iff]; intro hc; simp at hc h39; omega
    have a9 : (n.op == 9) = false := by rw [Bool.eq_false_iff]; intro hc; simp at hc h39; omega
    rw [a8, a9]; rfl
   have hd : digs (kidV n) = [2] := by rw [← e2]; unfold sortsC; rw [h10', h54, htab.2.2.2.2.1 (by simpa using h39)]; rfl
   have e3 : lastW n = (n.kids[0]?).all diffS := by unfold lastW; rw [h39]; rfl
   rw [h39, hlast, e3, hd]
   simp only [if_true, Bool.and_true]
   cases hm : ((n.kids.map fun x => sortS x.op) == ([2] : List Int)) with
   | false => simp
   | true =>
    have hl : n.kids.length = 1 := by have := congrArg List.length (eq_of_beq hm); simpa using this
    have : ((n.kids.length : Int) != 1) = false := by simp [hl]
    rw [this]
    cases (n.kids[0]?).all diffS <;> cases A <;> rfl
  ·have h39' : (n.op == 39) = false := by simpa using h39
   have e3 : lastW n = lastC n := by unfold lastW; rw [h39']; rfl
   rw [h39', e3]; rfl
theorem well_iter {K : Nat} (hK : 12 < K) : ∀ (k : Nat),
  (∀ (n : NodeA) (s : Int) (t f : Bool), 2 * n.size ≤ k → 2 * n.size ≤ K → n.size ≤ big → n.words → s ≠ 0 → (grp_r08_well K k).1 (n, s, t, f) = some (sortS n.op == s && okS n t f false)) ∧
  (∀ (n : NodeA) (t f : Bool), 2 * n.size ≤ k + 1 → 2 * n.size ≤ K → n.size ≤ big → n.words → n.op = 54 → (grp_r08_well K k).2 (n, t, f) = some (stC n t f false && ((n.kids.map fun x => sortS x.op) == sortsC n && n.kids.all fun k => okS k t f true))) := by
 intro k
 induction k with
 | zero => exact ⟨fun n s t f h => by have := n.size_pos; omega, fun n t f h => by have := n.size_pos; omega⟩
 | succ k ih =>
  obtain ⟨ih1, ih2⟩ := ih
  refine ⟨fun n s t f h hK2 hb hw hs => ?_, fun n t f h hK2 hb hw h54 => ?_⟩
  ·show r08_well_body K (grp_r08_well K k).1 (grp_r08_well K k).2 n s t f = _
   generalize (grp_r08_well K k).1 = S1 at ih1 ⊢
   generalize (grp_r08_well K k).2 = S2 at ih2 ⊢
   have hl := n.kids_lt
   have hbig : n.size ≤ 1099511627776 := hb
   unfold r08_well_body
   simp only [r08_Sort_eq, r08_named_eq, r08_Name_eq hK, Option.bind_some]
   by_cases hsort : sortS n.op = s
   ·subst hsort
    have htab := tab hs
    have e0 : (sortS n.op != sortS n.op) = false := by simp
    have e0' : (sortS n.op == sortS n.op) = true := by simp
    rw [e0, e0', Bool.true_and, okS_eq]
    simp only [Bool.false_eq_true, if_false]
    refine ob (if nameC n then .go () else .out false) ?_ ?_
    ·unfold nameC
     rw [htab.1]
     have hem : ((n.name.toList == (⟨#[]⟩ : ByteArray).toList) = true → nameB n.name = false) := emptyB_name
     have hem' : (n.name.toList == (⟨#[]⟩ : ByteArray).toList) = emptyB n.name := rfl
     rw [hem'] at hem ⊢
     revert hem
     cases (namedS n.op || (n.op == 10 || n.op == 37)) <;> cases nameB n.name <;> cases emptyB n.name <;> simp [outM]
    cases hB : nameC n with
    | false => simp [Out.fin]
    | true =>
    simp only [if_true, Out.fin_go]
    refine ob _ num_join' ?_
    cases hA : numC n with
    | false => rfl
    | true =>
    simp only [if_true, Out.fin_go, Bool.true_and]
    refine ob (if !(t && n.op == 12 || (t || f) && n.op == 3) then .go () else .out false) ?_ ?_
    ·cases t <;> cases f <;> cases (n.op == 12) <;> cases (n.op == 3) <;> rfl
    by_cases hC : (t && n.op == 12 || (t || f) && n.op == 3) = true
    ·have : stC n t f false = false := by
      unfold stC
      have h12 : (n.op == 12) = true ∨ (n.op == 3) = true := by
       revert hC; cases t <;> cases f <;> cases (n.op == 12) <;> cases (n.op == 3) <;> simp
      have a10 : (n.op == 10 || n.op == 37) = false := by rw [Bool.eq_false_iff]; intro hc; simp at hc h12; omega
      have a54 : (n.op == 54) = false := by rw [Bool.eq_false_iff]; intro hc; simp at hc h12; omega
      rw [a10, a54]
      rcases h12 with h12 | h12
      ·have a3 : (n.op == 3) = false := by rw [Bool.eq_false_iff]; intro hc; simp at hc h12; omega
       rw [h12, a3] at hC ⊢
       revert hC; cases t <;> cases f <;> simp
      ·have a12 : (n.op == 12) = false := by rw [Bool.eq_false_iff]; intro hc; simp at hc h12; omega
       rw [h12, a12] at hC ⊢
       revert hC; cases t <;> cases f <;> simp
     rw [hC, this]; rfl
    have hC' : (t && n.op == 12 || (t || f) && n.op == 3) = false := by simpa using hC
    rw [hC']
    simp only [Bool.not_false, if_true, Out.fin_go]
    by_cases h54 : (n.op == 54) = true
    ·have a12 : (n.op == 12) = false := by rw [Bool.eq_false_iff]; intro hc; simp at hc h54; omega
     have a39 : (n.op == 39) = false := by rw [Bool.eq_false_iff]; intro hc; simp at hc h54; omega
     have hlast : lastC n = true := by
      unfold lastC
      have a8 : (n.op == 8) = false := by rw [Bool.eq_false_iff]; intro hc; simp at hc h54; omega
      have a9 : (n.op == 9) = false := by rw [Bool.eq_false_iff]; intro hc; simp at hc h54; omega
      rw [a8, a9]; rfl
     rw [h54, a12, a39, hlast]
     simp only [if_true, Bool.or_false, Bool.or_true, Bool.and_true]
     rw [ih2 n t f (by omega) hK2 hb hw (by simpa using h54)]; rfl
    have h54' : (n.op == 54) = false := by simpa using h54
    simp only [h54', Bool.false_eq_true, if_false, r08_kids_eq, Option.bind_some, orO, Bool.or_false]
    rw [well_side hs h54' hC']
    obtain ⟨hv1, hv2⟩ := kidV_ok hs
    refine ob (kidV n) (by unfold kidV; cases (n.op == 10 || n.op == 37) <;> cases ((n.kids.length : Int) == 1) <;> rfl) ?_
    have hdl : (digs (kidV n)).length = (kidV n).size := by unfold digs; rw [List.length_map, size_toList]
    by_cases hlen : n.kids.length = (digs (kidV n)).length
    ·have e : (((kidV n).size : Int) != (n.kids.length : Int)) = false := by rw [hlen, hdl]; simp
     simp only [e, Bool.false_eq_true, if_false]
     refine ob (if ((n.kids.map fun x => sortS x.op) == digs (kidV n) && n.kids.all (fun k => okS k (t || n.op == 12) (f || n.op == 39) false)) then .go () else .out false) ?_ ?_
     ·rw [← map_eq hlen (fun k => okS k (t || n.op == 12) (f || n.op == 39) false)]
      refine scanG n.kids.length (fun i => (i : Int)) _ false () (fun g i hi => ?_) (fun g => ?_) (by omega) rfl
      ·have hx : n.kids[i]? = some n.kids[i] := List.getElem?_eq_getElem hi
       have hm := List.getElem_mem hi
       have hs' := NodeA.size_lt hm
       have hbk : n.kids[i].size ≤ big := by unfold big; omega
       obtain ⟨c, hc1, hc2⟩ := strAt_list (v := kidV n) (i := i) (by omega)
       have hcm := hv1 c (List.mem_of_getElem? hc2)
       have hy : (digs (kidV n))[i]? = some ((c.toNat : Int) - 48) := by unfold digs; rw [List.getElem?_map, hc2]; rfl
       have hy0 := hv2 _ (List.mem_of_getElem? hy)
       have hd : decide ((i : Int) < ((kidV n).size : Int)) = true := by simp; omega
       have e1 : IntKind.wrap .i64 (IntKind.wrap .u8 ((c.toNat : Int) - 48)) = (c.toNat : Int) - 48 := by
        have : IntKind.wrap .u8 ((c.toNat : Int) - 48) = (c.toNat : Int) - 48 := by
         simp only [IntKind.wrap, IntKind.bits, IntKind.signed, Bool.false_and]
         simp; omega
        rw [this, w64 (by omega) (by omega)]
       simp only [hd, if_true, idx_nat, hx, hc1, hy, Option.bind_some, e1, Option.all_some]
       generalize (c.toNat : Int) - 48 = z at hy0
       have ih' : ∀ a b, S1 (n.kids[i], z, a, b) = some (sortS n.kids[i].op == z && okS n.kids[i] a b false) := fun a b => ih1 n.kids[i] z a b (by omega) (by omega) hbk (NodeA.words_kid hw hm) hy0
       simp only [ih', Option.bind_some]
       rw [w64s (by omega)]
       have e2 : (sortS n.kids[i].op != z) = !(sortS n.kids[i].op == z) := rfl
       rw [e2]
       cases t <;> cases f <;> simp only [Bool.false_eq_true, if_false, if_true, Bool.false_or, Bool.true_or, Bool.not_not] <;> cases (sortS n.kids[i].op == z) <;> (try rfl) <;> generalize okS n.kids[i] _ _ false = q <;> cases q <;> rfl
      ·have hd : decide ((n.kids.length : Int) < ((kidV n).size : Int)) = false := by simp; omega
       simp only [hd, Bool.false_eq_true, if_false]
     ·rw [← Bool.and_assoc ((n.kids.map fun x => sortS x.op) == digs (kidV n))]
      cases hD : ((n.kids.map fun x => sortS x.op) == digs (kidV n) && n.kids.all (fun k => okS k (t || n.op == 12) (f || n.op == 39) false)) with
      | false => rfl
      | true =>
       simp only [if_true, Out.fin_go, Bool.true_and]
       have hmap : (n.kids.map fun x => sortS x.op) = digs (kidV n) := by
        revert hD; cases hq : ((n.kids.map fun x => sortS x.op) == digs (kidV n)) with
        | false => simp
        | true => intro _; exact eq_of_beq hq
       unfold lastW
       by_cases h89 : (n.op == 8 || n.op == 9) = true
       ·have a10 : (n.op == 10 || n.op == 37) = false := by rw [Bool.eq_false_iff]; intro hc; simp at hc h89; omega
        have a39 : (n.op == 39) = false := by rw [Bool.eq_false_iff]; intro hc; simp at hc h89; omega
        have h2 : n.kids.length = 2 := by
         rw [hlen]; unfold kidV digs
         rw [a10]
         simp only [Bool.false_eq_true, if_false]
         rw [htab.2.1, htab.2.2.2.2.2.1 h89]; rfl
        have hx : n.kids[1]? = some n.kids[1] := List.getElem?_eq_getElem (by omega)
        have i1 : idx n.kids 1 = some n.kids[1] := by rw [← hx]; exact idx_nat (k := 1)
        have hwk := NodeA.words_num (NodeA.words_kid hw (List.getElem_mem (show 1 < n.kids.length by omega)))
        obtain ⟨z, hz1, hz2⟩ := Natural_eq (K := K) hwk
        unfold lastC
        simp only [i1, hx, Option.bind_some, Option.all_some, hz1, hz2, a39, Bool.false_eq_true, if_false]
        cases (n.op == 8) with
        | true => cases (n.kids[1].op == 1) <;> rfl
        | false =>
         cases (n.op == 9) with
         | false => rfl
         | true => cases (n.kids[1].op == 1) <;> rfl
       ·have h8 : (n.op == 8) = false := by revert h89; cases (n.op == 8) <;> simp
        have h9 : (n.op == 9) = false := by revert h89; cases (n.op == 9) <;> simp
        unfold lastC
        rw [h8, h9]
        by_cases h39 : (n.op == 39) = true
        ·have a10 : (n.op == 10 || n.op == 37) = false := by rw [Bool.eq_false_iff]; intro hc; simp at hc h39; omega
         have h1 : n.kids.length = 1 := by
          rw [hlen]; unfold kidV digs
          rw [a10]
          simp only [Bool.false_eq_true, if_false]
          rw [htab.2.1, htab.2.2.2.2.1 (by simpa using h39)]; rfl
         have hx : n.kids[0]? = some n.kids[0] := List.getElem?_eq_getElem (by omega)
         have i0 : idx n.kids 0 = some n.kids[0] := by rw [← hx]; exact idx_nat (k := 0)
         have hs0 := NodeA.size_lt (List.getElem_mem (show 0 < n.kids.length by omega))
         simp only [h39, Bool.false_eq_true, if_false, if_true, i0, hx, Option.bind_some, Option.all_some, r08_differential_eq (show n.kids[0].size ≤ K by omega) (show n.kids[0].size ≤ 4611686018427387904 by omega)]
        ·have h39' : (n.op == 39) = false := by simpa using h39
         rw [h39']; rfl
    ·have e : (((kidV n).size : Int) != (n.kids.length : Int)) = true := by rw [← hdl]; simp; omega
     have e2 : ((n.kids.map fun x => sortS x.op) == digs (kidV n)) = false := by
      rw [beq_eq_false_iff_ne]; intro hq; apply hlen; rw [← hq]; simp
     rw [e, e2]; rfl
   ·have e0 : (sortS n.op != s) = true := by simpa using hsort
    have e1 : (sortS n.op == s) = false := by simpa using hsort
    rw [e0, e1]; rfl
  ·show r08_flow_body K (grp_r08_well K k).1 (grp_r08_well K k).2 n t f = _
   generalize (grp_r08_well K k).1 = S1 at ih1 ⊢
   generalize (grp_r08_well K k).2 = S2 at ih2 ⊢
   rw [← flow_eq h54]
   have hl := n.kids_lt
   have hbig : n.size ≤ 1099511627776 := hb
   have hprim : primS n = n.kids.any primS := by rw [primS_eq, h54]; rfl
   unfold r08_flow_body
   by_cases h2 : 2 ≤ n.kids.length
   ·have hd : decide ((n.kids.length : Int) < 2) = false := by simp; omega
    have e3 : IntKind.wrap .i64 ((n.kids.length : Int) - 1) = ((n.kids.length - 1 : Nat) : Int) := by rw [w64 (by omega) (by omega)]; omega
    have e4 : IntKind.wrap .i64 ((n.kids.length : Int) - 2) = ((n.kids.length - 2 : Nat) : Int) := by rw [w64 (by omega) (by omega)]; omega
    have hx : n.kids[n.kids.length - 1]? = some n.kids[n.kids.length - 1] := List.getElem?_eq_getElem (by omega)
    have hm : n.kids[n.kids.length - 1] ∈ n.kids := List.getElem_mem (by omega)
    have hsz := NodeA.size_lt hm
    simp only [hd, Bool.false_eq_true, if_false, r08_primed_eq (show n.size ≤ K by omega) (show n.size ≤ 4611686018427387904 by omega), Option.bind_some, e3, e4, idx_nat, hx,
     ih1 n.kids[n.kids.length - 1] 2 t f (by omega) (by omega) (by unfold big; omega) (NodeA.words_kid hw hm) (by omega), decide_eq_true h2, Bool.true_and, Option.all_some, hprim]
    cases hp : n.kids.any primS with
    | true => rfl
    | false =>
    simp only [Bool.false_eq_true, if_false, Bool.not_false, Bool.true_and, Option.bind_some]
    cases hlast : (sortS n.kids[n.kids.length - 1].op == 2 && okS n.kids[n.kids.length - 1] t f false) with
    | false => rfl
    | true =>
    simp only [Bool.not_true, Bool.false_eq_true, if_false, Option.bind_some, Out.fin_go, Bool.true_and]
    refine ob _ (scanG (n.kids.length - 1) (fun i => (i : Int)) (fun i => (n.kids[i]?).all fun (x : NodeA) =>
   !(x.op == 56 && decide ((i : Int) < ((n.kids.length - 2 : Nat) : Int)) || (x.op != 56 && x.op != 55 || !(sortS x.op == 4 && okS x t f false))) && (n.kids.take i).all fun y => !(x.op == 55 && y.name.toList == x.name.toList)) false () (fun g i hi => ?_) (fun g => ?_) (by omega) rfl) ?_
    ·have hi' : i < n.kids.length := by omega
     have hx : n.kids[i]? = some n.kids[i] := List.getElem?_eq_getElem hi'
     have hm := List.getElem_mem hi'
     have hs' := NodeA.size_lt hm
     have hbk : n.kids[i].size ≤ big := by unfold big; omega
     have hd : decide ((i : Int) < ((n.kids.length - 1 : Nat) : Int)) = true := by simp; omega
     have e56 : (n.kids[i].op != 56) = !(n.kids[i].op == 56) := rfl
     have e55 : (n.kids[i].op != 55) = !(n.kids[i].op == 55) := rfl
     simp only [hd, if_true, idx_nat, hx, Option.bind_some, ih1 n.kids[i] 4 t f (by omega) (by omega) hbk (NodeA.words_kid hw hm) (by omega), Option.all_some]
     rw [w64s (by omega)]
     refine ob (if (!(n.kids[i].op == 56 && decide ((i : Int) < ((n.kids.length - 2 : Nat) : Int)) || (n.kids[i].op != 56 && n.kids[i].op != 55 || !(sortS n.kids[i].op == 4 && okS n.kids[i] t f false))) && (n.kids.take i).all fun y => !(n.kids[i].op == 55 && y.name.toList == n.kids[i].name.toList)) then .go () else .out (.out false)) ?_ ?_
     ·refine ob (if !(n.kids[i].op == 56 && decide ((i : Int) < ((n.kids.length - 2 : Nat) : Int)) || (n.kids[i].op != 56 && n.kids[i].op != 55 || !(sortS n.kids[i].op == 4 && okS n.kids[i] t f false))) then .go () else .out (.out (.out false))) ?_ ?_
      ·rw [e56, e55]
       cases (n.kids[i].op == 56) <;> cases decide ((i : Int) < ((n.kids.length - 2 : Nat) : Int)) <;> cases (n.kids[i].op == 55) <;> cases (sortS n.kids[i].op == 4 && okS n.kids[i] t f false) <;> rfl
      ·cases (n.kids[i].op == 56 && decide ((i : Int) < ((n.kids.length - 2 : Nat) : Int)) || (n.kids[i].op != 56 && n.kids[i].op != 55 || !(sortS n.kids[i].op == 4 && okS n.kids[i] t f false))) with
       | true => rfl
       | false =>
        simp only [Bool.not_false, if_true, Out.fin_go, Bool.true_and]
        have hti : (n.kids.take i).length = i := by rw [List.length_take]; omega
        refine ob _ (scanG (n.kids.take i).length (fun j => (j : Int)) (fun j => ((n.kids.take i)[j]?).all fun y => !(n.kids[i].op == 55 && y.name.toList == n.kids[i].name.toList)) (.out (.out false)) () (fun g' j hj => ?_) (fun g' => ?_) (by omega) rfl) ?_
        ·have hy : (n.kids.take i)[j]? = some (n.kids.take i)[j] := List.getElem?_eq_getElem hj
         have hy' : n.kids[j]? = some (n.kids.take i)[j] := by rw [← hy, List.getElem?_take, if_pos (by omega)]
         have hd : decide ((j : Int) < (i : Int)) = true := by simp; omega
         simp only [hd, if_true, idx_nat, hy, hy', Option.bind_some, andO, Option.all_some]
         rw [w64s (by omega)]
         cases (n.kids[i].op == 55 && (n.kids.take i)[j].name.toList == n.kids[i].name.toList) <;> rfl
        ·have hd : decide (((n.kids.take i).length : Int) < (i : Int)) = false := by rw [hti]; simp
         simp only [hd, Bool.false_eq_true, if_false]
        ·rw [range_all]
         cases ((n.kids.take i).all fun y => !(n.kids[i].op == 55 && y.name.toList == n.kids[i].name.toList)) <;> rfl
     ·cases (!(n.kids[i].op == 56 && decide ((i : Int) < ((n.kids.length - 2 : Nat) : Int)) || (n.kids[i].op != 56 && n.kids[i].op != 55 || !(sortS n.kids[i].op == 4 && okS n.kids[i] t f false))) && (n.kids.take i).all fun y => !(n.kids[i].op == 55 && y.name.toList == n.kids[i].name.toList)) <;> rfl
    ·have hd : decide (((n.kids.length - 1 : Nat) : Int) < ((n.kids.length - 1 : Nat) : Int)) = false := by simp
     simp only [hd, Bool.false_eq_true, if_false]
    ·cases ((List.range (n.kids.length - 1)).all fun i => (n.kids[i]?).all fun x =>
   !(x.op == 56 && decide ((i : Int) < ((n.kids.length - 2 : Nat) : Int)) || (x.op != 56 && x.op != 55 || !(sortS x.op == 4 && okS x t f false))) && (n.kids.take i).all fun y => !(x.op == 55 && y.name.toList == x.name.toList)) <;> rfl
   ·have hd : decide ((n.kids.length : Int) < 2) = true := by simp; omega
    rw [hd, decide_eq_false h2]; rfl
end Go.Proofs.YtphgabghcedphaaGreatDoor
namespace Go.Proofs.YtphgabghcedphaaGreatDoor
open Go Go.Iso Go.Proofs
set_option linter.unusedSimpArgs false
set_option linter.unusedVariables false
set_option maxRecDepth 100000
/-! ### Check -/
def checkS (n : NodeA) (s : Int) : Int :=
 if decide (s < 1) || decide (3 < s) then 1 else if decide ((n.size : Int) ≤ 4000) && decide ((n.lev : Int) ≤ 60) then (if sortS n.op != s then 80 else if !okS n false false false then 3 else 0) else 2
theorem tree_Check_eq {K : Nat} {n : NodeA} {s : Int} (hK : 12 < K) (hK2 : 2 * n.size ≤ K) (hb : n.size ≤ big) : tree_Check K n s = some (checkS n s) := by
 unfold tree_Check checkS
 simp only [orO, Option.bind_some]
 cases hs : (decide (s < 1) || decide (3 < s)) with
 | true => rfl
 | false =>
  simp only [Bool.false_eq_true, if_false, Option.bind_some, Out.fin_go]
  obtain ⟨r, hr, hw⟩ := tree_within_eq (show n.size ≤ K by omega) hb
  rw [hr]
  simp only [Option.bind_some]
  unfold Within at hw
  by_cases hc : (n.size : Int) ≤ 4000 ∧ (n.lev : Int) ≤ 60
  ·rw [if_pos hc] at hw
   subst hw
   rw [decide_eq_true hc.1, decide_eq_true hc.2]
   simp only [Bool.not_true, Bool.false_eq_true, if_false, tree_Sort_eq, Option.bind_some, Bool.and_self, if_true]
   by_cases h2 : sortS n.op = s
   ·have e : (sortS n.op != s) = false := by simp [h2]
    have h0 : sortS n.op ≠ 0 := by rw [h2]; intro hz; subst hz; revert hs; decide
    rw [e]
    simp only [Bool.false_eq_true, if_false]
    have : tree_formed K n (Tree_placeA.mk false false false) = some (okS n false false false) := formed_iter hK K n ⟨false, false, false⟩ (by omega) (by omega) hb h0
    rw [this]
    simp only [Option.bind_some]
    cases okS n false false false <;> rfl
   ·have e : (sortS n.op != s) = true := by simp [h2]
    rw [e]; rfl
  ·rw [if_neg hc] at hw
   rw [hw]
   have : (decide ((n.size : Int) ≤ 4000) && decide ((n.lev : Int) ≤ 60)) = false := by
    rw [Bool.and_eq_false_iff, decide_eq_false_iff_not, decide_eq_false_iff_not]
    by_cases h1 : (n.size : Int) ≤ 4000
    ·exact .inr fun h2 => hc ⟨h1, h2⟩
    ·exact .inl h1
   rw [this]; rfl
theorem r08_well_eq {K : Nat} {n : NodeA} {s : Int} (hK : 12 < K) (hK2 : 2 * n.size ≤ K) (hb : n.size ≤ big) (hw : n.words) (hs : s ≠ 0) : r08_well K n s false false = some (sortS n.op == s && okS n false false false) :=
 (well_iter hK K).1 n s false false hK2 hK2 hb hw hs
theorem r08_Check_eq {K : Nat} {n : NodeA} {s : Int} (hK : 12 < K) (hK2 : 2 * n.size ≤ K) (hb : n.size ≤ big) (hw : n.words) : r08_Check K n s = some (checkS n s) := by
 unfold r08_Check checkS
 simp only [orO, Option.bind_some]
 cases hs : (decide (s < 1) || decide (3 < s)) with
 | true => rfl
 | false =>
  simp only [Bool.false_eq_true, if_false, r08_Size_eq (show n.size ≤ K by omega) hb, r08_Levels_eq (show n.size ≤ K by omega) hb, Option.bind_some, orO]
  by_cases hc : (n.size : Int) ≤ 4000 ∧ (n.lev : Int) ≤ 60
  ·have e1 : decide ((4000 : Int) < (n.size : Int)) = false := by simp; omega
   have e2 : decide ((60 : Int) < (n.lev : Int)) = false := by simp; omega
   rw [e1, e2, decide_eq_true hc.1, decide_eq_true hc.2]
   simp only [Bool.or_self, Bool.false_eq_true, if_false, r08_Sort_eq, Option.bind_some, Bool.and_self, if_true]
   by_cases h2 : sortS n.op = s
   ·have e : (sortS n.op != s) = false := by simp [h2]
    have e' : (sortS n.op == s) = true := by simp [h2]
    have h0 : s ≠ 0 := by intro hz; subst hz; revert hs; decide
    rw [e]
    simp only [Bool.false_eq_true, if_false, r08_well_eq hK hK2 hb hw h0, Option.bind_some, e', Bool.true_and]
    cases okS n false false false <;> rfl
   ·have e : (sortS n.op != s) = true := by simp [h2]
    rw [e]; rfl
  ·have : (decide ((n.size : Int) ≤ 4000) && decide ((n.lev : Int) ≤ 60)) = false := by
    rw [Bool.and_eq_false_iff, decide_eq_false_iff_not, decide_eq_false_iff_not]
    by_cases h1 : (n.size : Int) ≤ 4000
    ·exact .inr fun h2 => hc ⟨h1, h2⟩
    ·exact .inl h1
   have e : (decide ((4000 : Int) < (n.size : Int)) || decide ((60 : Int) < (n.lev : Int))) = true := by
    rw [Bool.or_eq_true, decide_eq_true_eq, decide_eq_true_eq]
    by_cases h1 : (n.size : Int) ≤ 4000
    ·exact .inr (by have : ¬ (n.lev : Int) ≤ 60 := fun h2 => hc ⟨h1, h2⟩; omega)
    ·exact .inl (by omega)
   rw [this, e]; rfl
def rootS (n : NodeA) : Int := if sortS n.op == 0 || sortS n.op == 4 then 80 else checkS n (sortS n.op)
theorem rootS_ok {n : NodeA} (h : rootS n = 0) : okS n false false false = true ∧ sortS n.op ≠ 0 := by
 unfold rootS at h
 cases hs : (sortS n.op == 0 || sortS n.op == 4) with
 | true => rw [hs] at h; cases h
 | false =>
  rw [hs] at h
  simp only [Bool.false_eq_true, if_false] at h
  have h0 : sortS n.op ≠ 0 := by intro hz; rw [hz] at hs; revert hs; decide
  refine ⟨?_, h0⟩
  unfold checkS at h
  revert h
  cases (decide (sortS n.op < 1) || decide (3 < sortS n.op)) <;> cases (decide ((n.size : Int) ≤ 4000) && decide ((n.lev : Int) ≤ 60)) <;> cases hq : (sortS n.op != sortS n.op) <;> cases okS n false false false <;> simp
/-! ### Nodes -/
def Fine (n : NodeA) : Prop := ∃ d fd fl, okS n d fd fl = true
theorem fine_kid {n k : NodeA} (h : Fine n) (hk : k ∈ n.kids) : Fine k := by
 obtain ⟨d, fd, fl, h⟩ := h
 rw [okS_eq] at h
 simp only [Bool.and_eq_true, List.all_eq_true] at h
 exact ⟨_, _, _, h.2.2.2.2.1 k hk⟩
end Go.Proofs.YtphgabghcedphaaGreatDoor
namespace Go.Proofs.YtphgabghcedphaaGreatDoor
open Go Go.Iso Go.Proofs
set_option linter.unusedSimpArgs false
set_option linter.unusedVariables false
set_option maxRecDepth 100000
/-! ### Exchanged names -/
def varOp (op : Int) : Bool := op == 2 || (op == 3 || (op == 50 || (op == 51 || (op == 52 || (op == 55 || (op == 33 || op == 34))))))
theorem rename_variable_eq {K : Nat} {op : Int} : rename_variable K op = some (varOp op) := by
 unfold rename_variable varOp
 simp only [orO', Option.bind_some]
 cases (op == 2 || (op == 3 || (op == 50 || (op == 51 || (op == 52 || (op == 55 || (op == 33 || op == 34))))))) <;> rfl
theorem varOp_iff {op : Int} : varOp op = true ↔ op = 2 ∨ op = 3 ∨ op = 50 ∨ op = 51 ∨ op = 52 ∨ op = 55 ∨ op = 33 ∨ op = 34 := by
 unfold varOp; simp only [Bool.or_eq_true, beq_iff_eq]
theorem varOp_named {op : Int} (h : varOp op = true) : namedS op = true := by
 rcases varOp_iff.1 h with rfl | rfl | rfl | rfl | rfl | rfl | rfl | rfl <;> decide +kernel
theorem eqB {a b : ByteArray} : (a.toList == b.toList) = true ↔ a = b := by
 rw [beq_iff_eq]; exact ⟨fun h => toList_inj h, fun h => by rw [h]⟩
theorem neB {a b : ByteArray} (h : a ≠ b) : (a.toList == b.toList) = false := by
 cases e : a.toList == b.toList with
 | false => rfl
 | true => exact absurd (eqB.1 e) h
def swB (x y s : ByteArray) : ByteArray := if s.toList == x.toList then y else if s.toList == y.toList then x else s
theorem swB_x {x y : ByteArray} : swB x y x = y := by unfold swB; rw [if_pos (eqB.2 rfl)]
theorem swB_y {x y : ByteArray} : swB x y y = x := by
 unfold swB
 by_cases h : y = x
 ·subst h; rw [if_pos (eqB.2 rfl)]
 ·rw [if_neg (by rw [neB h]; simp), if_pos (eqB.2 rfl)]
theorem swB_o {x y s : ByteArray} (h1 : s ≠ x) (h2 : s ≠ y) : swB x y s = s := by
 unfold swB; rw [if_neg (by rw [neB h1]; simp), if_neg (by rw [neB h2]; simp)]
theorem swB_swB {x y s : ByteArray} : swB x y (swB x y s) = s := by
 by_cases h1 : s = x
 ·subst h1; rw [swB_x, swB_y]
 ·by_cases h2 : s = y
  ·subst h2; rw [swB_y, swB_x]
  ·rw [swB_o h1 h2, swB_o h1 h2]
theorem swB_inj {x y s t : ByteArray} (h : swB x y s = swB x y t) : s = t := by
 have := congrArg (swB x y) h; rwa [swB_swB, swB_swB] at this
theorem swB_name {x y s : ByteArray} (hx : nameB x = true) (hy : nameB y = true) (hs : nameB s = true) : nameB (swB x y s) = true := by
 unfold swB; split
 ·exact hy
 ·split
  ·exact hx
  ·exact hs
theorem rename_uniform_1_eq {K : Nat} {x y s : ByteArray} : rename_uniform_1 K s x y = some (swB x y s) := by
 unfold rename_uniform_1 swB
 cases s.toList == x.toList <;> cases s.toList == y.toList <;> rfl
def exN (x y : ByteArray) (op : Int) (m : ByteArray) : ByteArray := if varOp op then swB x y m else m
def exS (x y : ByteArray) : NodeA → NodeA
 | .mk o m r ks => .mk o (exN x y o m) r (ks.attach.map fun ⟨k, _⟩ => exS x y k)
termination_by n => SizeOf.sizeOf n
decreasing_by exact NodeA.size_kid (by assumption)
section
variable {x y : ByteArray}
theorem exS_mk {o : Int} {m : ByteArray} {r : RatA} {ks : List NodeA} : exS x y (.mk o m r ks) = .mk o (exN x y o m) r (ks.map (exS x y)) := by
 rw [exS]; simp
theorem exS_op (n : NodeA) : (exS x y n).op = n.op := by cases n; rw [exS_mk]; rfl
theorem exS_name (n : NodeA) : (exS x y n).name = exN x y n.op n.name := by cases n; rw [exS_mk]; rfl
theorem exS_num (n : NodeA) : (exS x y n).num = n.num := by cases n; rw [exS_mk]; rfl
theorem exS_kids (n : NodeA) : (exS x y n).kids = n.kids.map (exS x y) := by cases n; rw [exS_mk]; rfl
theorem exS_size : ∀ n, (exS x y n).size = n.size := NodeA.ind fun n ih => by
 cases n with
 | mk o m r ks =>
  rw [exS_mk, NodeA.size_mk, NodeA.size_mk, List.map_map]
  have h2 : ks.map (NodeA.size ∘ exS x y) = ks.map NodeA.size := List.map_congr_left fun k hk => ih k hk
  rw [h2]
theorem exS_lev : ∀ n, (exS x y n).lev = n.lev := NodeA.ind fun n ih => by
 cases n with
 | mk o m r ks =>
  rw [exS_mk, NodeA.lev_mk, NodeA.lev_mk, List.map_map]
  have h2 : ks.map (NodeA.lev ∘ exS x y) = ks.map NodeA.lev := List.map_congr_left fun k hk => ih k hk
  rw [h2]
theorem exS_words : ∀ n, n.words → (exS x y n).words := NodeA.ind fun n ih => by
 cases n with
 | mk o m r ks =>
  rw [exS_mk, NodeA.words_mk, NodeA.words_mk]
  rintro ⟨h1, h2⟩
  refine ⟨h1, fun k hk => ?_⟩
  obtain ⟨k', hk', rfl⟩ := List.mem_map.1 hk
  exact ih k' hk' (h2 k' hk')
theorem exS_diff : ∀ n, diffS (exS x y n) = diffS n := NodeA.ind fun n ih => by
 rw [diffS_eq, diffS_eq n, exS_op, exS_kids, List.all_map]
 have : n.kids.all (diffS ∘ exS x y) = n.kids.all diffS := by
  rw [Bool.eq_iff_iff, List.all_eq_true, List.all_eq_true]
  exact ⟨fun h k hk => (ih k hk).symm.trans (h k hk), fun h k hk => (ih k hk).trans (h k hk)⟩
 rw [this]
/-! ### Form is kept -/
theorem exS_num_ok (n : NodeA) : numC (exS x y n) = numC n := by unfold numC; rw [exS_op, exS_num]
theorem exS_sorts (n : NodeA) : sortsC (exS x y n) = sortsC n := by unfold sortsC; rw [exS_op, exS_kids, List.length_map]
theorem exS_last (n : NodeA) : lastC (exS x y n) = lastC n := by
 unfold lastC
 rw [exS_op, exS_kids, List.getElem?_map]
 cases n.kids[1]? with
 | none => rfl
 | some k => simp only [Option.map_some, Option.all_some, exS_op, exS_num]
theorem exS_nameC {n : NodeA} (hx : nameB x = true) (hy : nameB y = true) (h : nameC n = true) : nameC (exS x y n) = true := by
 unfold nameC at h ⊢
 rw [exS_op, exS_name]
 unfold exN
 cases hv : varOp n.op with
 | false => simpa using h
 | true =>
  rw [varOp_named hv] at h ⊢
  simp only [Bool.true_or, if_true] at h ⊢
  exact swB_name hx hy h
theorem exS_flow {ks : List NodeA} (h : (List.range (ks.length - 1)).all (flowK ks) = true) : (List.range ((ks.map (exS x y)).length - 1)).all (flowK (ks.map (exS x y))) = true := by
 rw [List.length_map]
 rw [List.all_eq_true] at h ⊢
 intro i hi
 have hi' : i < ks.length - 1 := by simpa using hi
 have hil : i < ks.length := by omega
 have h1 := h i hi
 unfold flowK at h1 ⊢
 rw [List.getElem?_map]
 rw [List.getElem?_eq_getElem hil] at h1 ⊢
 simp only [Option.map_some, Option.all_some, Bool.and_eq_true, List.length_map] at h1 ⊢
 rw [exS_op]
 refine ⟨h1.1, ?_⟩
 rw [List.all_eq_true]
 intro z hz
 rw [← List.map_take] at hz
 obtain ⟨y', hy', rfl⟩ := List.mem_map.1 hz
 have h2 := List.all_eq_true.1 h1.2 y' hy'
 cases h55 : ks[i].op == 55 with
 | false => rfl
 | true =>
  rw [h55] at h2
  simp only [Bool.true_and, Bool.not_eq_true'] at h2 ⊢
  obtain ⟨j, hj, e⟩ := List.mem_take_iff_getElem.1 hy'
  have hj' : j < i := by omega
  have hjl : j < ks.length := by omega
  have h3 := h j (by simp; omega)
  unfold flowK at h3
  rw [List.getElem?_eq_getElem hjl] at h3
  simp only [Option.all_some, Bool.and_eq_true, Bool.not_eq_true'] at h3
  have hop : y'.op = 55 := by
   rw [← e]
   have h4 := h3.1
   rw [Bool.and_eq_false_iff] at h4
   rcases h4 with h4 | h4
   ·simpa using h4
   ·rw [Bool.or_eq_false_iff] at h4
    have h5 : (j : Int) = ((ks.length - 2 : Nat) : Int) := by simpa using h4.2
    omega
  rw [exS_name, exS_name]
  have v1 : varOp y'.op = true := by rw [hop]; decide
  have v2 : varOp ks[i].op = true := by rw [eq_of_beq h55]; decide
  unfold exN
  rw [v1, v2]
  simp only [if_true]
  refine neB fun e => ?_
  have := swB_inj e
  rw [this, eqB.2 rfl] at h2; cases h2
theorem exS_st {n : NodeA} {d fd fl : Bool} (h : stC n d fd fl = true) : stC (exS x y n) d fd fl = true := by
 unfold stC at h ⊢
 rw [exS_op, exS_kids, List.length_map]
 split
 ·next h1 => rw [if_pos h1] at h; exact h
 ·next h1 =>
  rw [if_neg h1] at h
  split
  ·next h2 =>
   rw [if_pos h2, Bool.and_eq_true] at h
   rw [Bool.and_eq_true]
   have := exS_flow (x := x) (y := y) h.2
   rw [List.length_map] at this
   exact ⟨h.1, this⟩
  ·next h2 =>
   rw [if_neg h2] at h
   have e : ((n.kids.map (exS x y))[0]?).all diffS = (n.kids[0]?).all diffS := by
    rw [List.getElem?_map]
    cases n.kids[0]? with
    | none => rfl
    | some k => simp only [Option.map_some, Option.all_some, exS_diff]
   rw [e]; exact h
theorem exS_ok (hx : nameB x = true) (hy : nameB y = true) : ∀ n d fd fl, okS n d fd fl = true → okS (exS x y n) d fd fl = true := by
 refine NodeA.ind fun n ih => ?_
 intro d fd fl h
 rw [okS_eq] at h ⊢
 simp only [Bool.and_eq_true] at h ⊢
 obtain ⟨h1, h2, h3, h4, h5, h6⟩ := h
 refine ⟨by rw [exS_num_ok]; exact h1, exS_nameC hx hy h2, exS_st h3, ?_, ?_, by rw [exS_last]; exact h6⟩
 ·rw [exS_sorts, exS_kids, List.map_map]
  have : n.kids.map ((fun x => sortS x.op) ∘ exS x y) = n.kids.map fun x => sortS x.op := List.map_congr_left fun k hk => by simp only [Function.comp, exS_op]
  rw [this]; exact h4
 ·rw [exS_kids, exS_op, List.all_map, List.all_eq_true]
  intro k hk
  exact ih k hk _ _ _ (List.all_eq_true.1 h5 k hk)
/-! ### Symbols -/
def occB (o : Int) : NodeA → Bool
 | .mk op _ _ ks => op == o || ks.attach.any fun ⟨k, _⟩ => occB o k
termination_by n => SizeOf.sizeOf n
decreasing_by exact NodeA.size_kid (by assumption)
theorem occB_eq {o : Int} (n : NodeA) : occB o n = (n.op == o || n.kids.any (occB o)) := by
 cases n with | mk op m r ks => rw [occB]; simp [NodeA.op, NodeA.kids]
end
theorem scan_any {α : Type} {l : List α} {q : α → Bool} {K : Nat} (hl : l.length < K) (hb : l.length ≤ big) {f : (Int → Option (Out Unit Bool)) → Int → Option (Out Unit Bool)}
  (h1 : ∀ g (i : Nat) x, l[i]? = some x → f g i = if q x then some (.out true) else g (IntKind.wrap .i64 ((i : Int) + 1))) (h2 : ∀ g (i : Nat), l.length ≤ i → f g i = some (.go ())) : iter K f 0 = some (if l.any q then .out true else .go ()) := by
 unfold big at hb
 rw [scan l (fun x => !q x) true (by omega) (fun g i x hx => by rw [h1 g i x hx]; cases q x <;> rfl) h2 hl]
 have : l.all (fun x => !q x) = !l.any q := by rw [Bool.eq_iff_iff]; simp
 rw [this]
 cases l.any q <;> rfl
theorem lt_tn {i n : Nat} (h : i < n) : decide ((i : Int) < (n : Int)) = true := decide_eq_true (by omega)
theorem lt_fn {i n : Nat} (h : n ≤ i) : decide ((i : Int) < (n : Int)) = false := decide_eq_false (by omega)
theorem uses_iter {K : Nat} {l : List Int} (hl : l.length < K) (hlb : l.length ≤ big) : ∀ (n : NodeA) (j : Nat), n.size ≤ j → n.size ≤ K → n.size ≤ big → iter j (fun self q => static_Uses_body K self q.1 q.2) (n, l) = some (l.any fun o => occB o n) := by
 refine NodeA.ind fun n ih => ?_
 intro j hj hK hb
 have hp := n.size_pos
 have hkl := n.kids_lt
 obtain ⟨j, rfl⟩ : ∃ i, j = i + 1 := ⟨j - 1, by omega⟩
 rw [iter_succ]
 have ih' : ∀ k ∈ n.kids, iter j (fun self q => static_Uses_body K self q.1 q.2) (k, l) = some (l.any fun o => occB o k) := fun k hk => ih k hk j (by have := NodeA.size_lt hk; omega) (by have := NodeA.size_lt hk; omega) (by have := NodeA.size_lt hk; omega)
 have hsplit : (l.any fun o => occB o n) = ((l.any fun o => n.op == o) || n.kids.any fun k => l.any fun o => occB o k) := by
  rw [Bool.eq_iff_iff]
  simp only [Bool.or_eq_true, List.any_eq_true]
  constructor
  ·rintro ⟨o, ho, h⟩
   rw [occB_eq, Bool.or_eq_true, List.any_eq_true] at h
   rcases h with h | ⟨k, hk, h⟩
   ·exact .inl ⟨o, ho, h⟩
   ·exact .inr ⟨k, hk, o, ho, h⟩
  ·rintro (⟨o, ho, h⟩ | ⟨k, hk, o, ho, h⟩)
   ·exact ⟨o, ho, by rw [occB_eq, h]; rfl⟩
   ·exact ⟨o, ho, by rw [occB_eq, Bool.or_eq_true, List.any_eq_true]; exact .inr ⟨k, hk, h⟩⟩
 rw [hsplit]
 generalize iter j (fun self q => static_Uses_body K self q.1 q.2) = S at ih' ⊢
 unfold static_Uses_body
 simp only
 refine ob _ (scan_any (l := l) (q := fun o => n.op == o) hl hlb (fun g i x hx => ?_) fun g i hi => ?_) ?_
 ·obtain ⟨hlt, rfl⟩ := List.getElem?_eq_some_iff.1 hx
  simp only [lt_tn hlt, if_true, idx_nat, hx, Option.bind_some, outM_eq]
 ·simp only [lt_fn hi, Bool.false_eq_true, if_false]
 ·cases h : l.any fun o => n.op == o with
  | true => rfl
  | false =>
   simp only [Bool.false_eq_true, if_false, Out.fin_go, Bool.false_or]
   refine ob _ (scan_any (l := n.kids) (q := fun k => l.any fun o => occB o k) (by omega) (by omega) (fun g i x hx => ?_) fun g i hi => ?_) ?_
   ·obtain ⟨hlt, rfl⟩ := List.getElem?_eq_some_iff.1 hx
    simp only [lt_tn hlt, if_true, idx_nat, hx, Option.bind_some, ih' _ (List.getElem_mem hlt), outM_eq]
   ·simp only [lt_fn hi, Bool.false_eq_true, if_false]
   ·cases n.kids.any fun k => l.any fun o => occB o k <;> rfl
def renB (n : NodeA) : Bool := !(occB 11 n || (occB 38 n || (occB 61 n || (occB 62 n || occB 56 n))))
theorem rename_renamable_eq {K : Nat} {n : NodeA} (hK : n.size ≤ K) (h12 : 12 < K) (hb : n.size ≤ big) : rename_renamable K n = some (renB n) := by
 have hu : static_Uses K n [11, 38, 61, 62, 56] = some (!renB n) := by
  have := uses_iter (K := K) (l := [11, 38, 61, 62, 56]) (by simp; omega) (by show 5 ≤ 1099511627776; omega) n K hK hK hb
  refine this.trans ?_
  unfold renB
  simp only [List.any_cons, List.any_nil, Bool.or_false, Bool.not_not]
 unfold rename_renamable
 rw [hu]; simp
set_option maxRecDepth 100000
theorem awake18_eq (k : Nat) : law18_awake (k + 200) = some true := by kernel_rfl
/-! ### Copies -/
def Few (r : RatA) : Prop := r.num.length ≤ 100 ∧ r.den.length ≤ 100
theorem natS_few {r : RatA} (h : natS r = true) : Few r := by
 unfold natS at h
 simp only [Bool.and_eq_true, decide_eq_true_eq] at h
 have hd : r.den = [1] := eq_of_beq h.1.1.2
 exact ⟨by omega, by rw [hd]; simp⟩
theorem fine_few {n : NodeA} (h : Fine n) : Few n.num := by
 obtain ⟨d, fd, fl, h⟩ := h
 rw [okS_eq] at h
 simp only [Bool.and_eq_true] at h
 have h := h.1
 unfold numC at h
 split at h
 ·exact natS_few h
 ·simp only [Bool.not_eq_true', Bool.or_eq_false_iff, decide_eq_false_iff_not] at h
  exact ⟨by omega, by omega⟩
theorem app_few {l : List Int} (h : l.length ≤ 100) : appO 4 [] l = some l := by
 unfold appO; rw [if_pos (by simp; omega)]; rfl
theorem app_few' {l : List Int} (h : l.length ≤ 100) : ((if (decide ((0 : Int) < (l.length : Int))) then (appO 4 [] l).bind fun l4 => some l4 else some []) : Option (List Int)) = some l := by
 cases l with
 | nil => rfl
 | cons a l => rw [app_few h]; simp
theorem copy_leaf {K : Nat} {op : Int} {m : ByteArray} {r : RatA} (h : Few r) (hK : 0 < K) : tree_Copy K (.mk op m r []) = some (.mk op m r []) := by
 obtain ⟨k, rfl⟩ : ∃ k, K = k + 1 := ⟨K - 1, by omega⟩
 unfold tree_Copy
 rw [iter_succ]
 generalize iter k (fun self q => tree_Copy_body (k + 1) self q) = S
 unfold tree_Copy_body
 simp only [NodeA.num_mk, NodeA.kids_mk, NodeA.op_mk, NodeA.name_mk]
 refine ob _ (app_few' h.1) (ob _ (app_few' h.2) (ob _ (iter_succ ..) ?_))
 rfl
theorem app_node {l : List NodeA} {x : NodeA} (h : l.length ≤ big) : appO 104 l [x] = some (l ++ [x]) := by
 unfold appO big at *
 rw [if_pos (by simp only [List.length_singleton]; omega)]
section
variable {x y : ByteArray}
theorem uniform_iter {K : Nat} : ∀ (n : NodeA) (j : Nat), Fine n → n.size ≤ j → n.size ≤ K → n.size ≤ big → iter j (fun self q => rename_uniform_2_body K self q.1 q.2.1 q.2.2) (n, x, y) = some (exS x y n) := by
 refine NodeA.ind fun n ih => ?_
 intro j hf hj hK hb
 have hp := n.size_pos
 have hkl := n.kids_lt
 obtain ⟨j, rfl⟩ : ∃ i, j = i + 1 := ⟨j - 1, by omega⟩
 rw [iter_succ]
 have ih' : ∀ k ∈ n.kids, iter j (fun self q => rename_uniform_2_body K self q.1 q.2.1 q.2.2) (k, x, y) = some (exS x y k) := fun k hk => ih k hk j (fine_kid hf hk) (by have := NodeA.size_lt hk; omega) (by have := NodeA.size_lt hk; omega) (by have := NodeA.size_lt hk; omega)
 generalize iter j (fun self q => rename_uniform_2_body K self q.1 q.2.1 q.2.2) = S at ih' ⊢
 unfold rename_uniform_2_body
 simp only
 refine ob _ (copy_leaf (fine_few hf) (by omega)) ?_
 simp only [rename_variable_eq, Option.bind_some, rename_uniform_1_eq, NodeA.name_mk, NodeA.op_mk, NodeA.num_mk, NodeA.kids_mk]
 have hn : (if varOp n.op then some (swB x y n.name) else some n.name) = some (exN x y n.op n.name) := by unfold exN; split <;> rfl
 rw [hn]
 simp only [Option.bind_some]
 unfold big at hb
 refine ob (n.kids.map (exS x y)) (foldG n.kids.length (fun i => ((i : Int), (n.kids.take i).map (exS x y))) _ (fun g i hi => ?_) (fun g => ?_) (by omega) rfl) ?_
 ·have hx : n.kids[i]? = some n.kids[i] := List.getElem?_eq_getElem hi
  have hl : ((n.kids.take i).map (exS x y)).length ≤ big := by rw [List.length_map, List.length_take]; unfold big; omega
  simp only [lt_tn hi, if_true, idx_nat, hx, Option.bind_some, ih' _ (List.getElem_mem hi), app_node hl]
  have et : n.kids.take (i + 1) = n.kids.take i ++ [n.kids[i]] := by rw [List.take_add_one, hx]; rfl
  rw [w64s (by omega), et, List.map_append]; rfl
 ·simp only [lt_fn (Nat.le_refl n.kids.length), Bool.false_eq_true, if_false, List.take_length]
 ·cases n with | mk o m r ks => rw [exS_mk]; rfl
end
/-! ### Equal to itself -/
/-! ### The law -/
theorem rename_check_eq {K : Nat} {n : NodeA} (hK : 12 < K) (hK2 : 2 * n.size ≤ K) (hb : n.size ≤ big) : rename_check K n = some (rootS n) := by
 unfold rename_check rootS
 simp only [tree_Sort_eq, Option.bind_some, orO]
 cases (sortS n.op == 0 || sortS n.op == 4) with
 | true => rfl
 | false => simp only [Bool.false_eq_true, if_false, Option.bind_some, Out.fin_go, tree_Check_eq hK hK2 hb]
abbrev zN : NodeA := NodeA.mk 0 ⟨#[]⟩ (RatA.mk false [] []) []
def uniA (n : NodeA) (x y : ByteArray) : NodeA × Int :=
 if rootS n != 0 then (zN, rootS n) else if !nameB x || !nameB y then (zN, 3) else if !renB n then (zN, 180) else (exS x y n, 0)
theorem rename_Uniform_eq {K : Nat} {n : NodeA} {x y : ByteArray} (hK : 12 < K) (hK2 : 2 * n.size ≤ K) (hb : n.size ≤ big) : rename_Uniform K n x y = some (uniA n x y) := by
 unfold rename_Uniform uniA
 simp only [rename_check_eq hK hK2 hb, Option.bind_some, tree_Name_eq hK, rename_renamable_eq (show n.size ≤ K by omega) hK hb]
 by_cases hr : rootS n = 0
 ·have e : (rootS n != 0) = false := by simpa using hr
  have hf : Fine n := ⟨_, _, _, (rootS_ok hr).1⟩
  have hu : rename_uniform K n x y = some (exS x y n) := by
   unfold rename_uniform rename_uniform_2
   rw [uniform_iter n K hf (by omega) (by omega) hb]; rfl
  rw [e, hu]
  cases nameB x <;> cases nameB y <;> cases renB n <;> rfl
 ·have e : (rootS n != 0) = true := by simpa using hr
  rw [e]; rfl
end Go.Proofs.YtphgabghcedphaaGreatDoor
namespace Go.Proofs.YtphgabghcedphaaGreatDoor
open Go Go.Iso Go.Proofs
set_option linter.unusedSimpArgs false
set_option linter.unusedVariables false
set_option maxRecDepth 100000
/-! ### Variables -/
def unpB (s : ByteArray) : ByteArray := if 0 < s.size ∧ s[s.size - 1]? = some 39 then s.extract 0 (s.size - 1) else s
def varB (s : ByteArray) : Bool := nameB (unpB s)
theorem byte39 (c : UInt8) : ((c.toNat : Int) == 39) = (c == 39) := by
 rw [Bool.eq_iff_iff, beq_iff_eq, beq_iff_eq, ← UInt8.toNat_inj]
 show _ ↔ c.toNat = 39
 omega
/-! ### Sets -/
def topV : Nat := 1000000000000
abbrev tick : ByteArray := ⟨#[39]⟩
structure Uni (V : List ByteArray) : Prop where
 siz : ∀ x ∈ V, x.size < 100
 top : V.length ≤ topV
 cls : ∀ x ∈ V, x[x.size - 1]? ≠ some 39 → x ++ tick ∈ V
structure Good (V : List ByteArray) (A : Api_NamesA) : Prop where
 sp : SP A.list
 var : ∀ x ∈ A.list, varB x = true
 sub : ∀ x ∈ A.list, x ∈ V
 uni : Uni V
theorem Good.len {V : List ByteArray} {A : Api_NamesA} (h : Good V A) : A.list.length ≤ V.length := nodup_len (sp_nodup h.sp) h.sub
theorem Good.lt {V : List ByteArray} {A : Api_NamesA} (h : Good V A) : A.list.length ≤ topV := Nat.le_trans h.len h.uni.top
/-! ### Mixing -/
/-! ### The operations -/
section
variable {V : List ByteArray} {A B : Api_NamesA} {K : Nat}
/-! ### Members -/
end
/-! ### Primes -/
theorem tick_size {x : ByteArray} : (x ++ tick).size = x.size + 1 := by simp [ByteArray.size_append]; rfl
theorem tick_last {x : ByteArray} : (x ++ tick)[(x ++ tick).size - 1]? = some 39 := by
 rw [tick_size, getElem?_pos (x ++ tick) (x.size + 1 - 1) (by rw [tick_size]; omega)]
 congr 1
 simp only [Nat.add_sub_cancel]
 rw [ByteArray.getElem_append_right (by omega)]
 simp only [Nat.sub_self]
 rfl
theorem tick_cut {x : ByteArray} : (x ++ tick).extract 0 ((x ++ tick).size - 1) = x := by
 rw [tick_size, Nat.add_sub_cancel]
 apply toList_inj
 rw [bytes_toList, bytes_toList]
 have e : x.data.toList.length = x.size := rfl
 rw [ByteArray.data_extract, ByteArray.data_append, Array.toList_extract, Array.toList_append, List.extract_eq_take_drop, List.drop_zero, Nat.sub_zero, ← e, List.take_left']
 rfl
theorem unp_tick {x : ByteArray} : unpB (x ++ tick) = x := by
 unfold unpB
 rw [if_pos ⟨by rw [tick_size]; omega, tick_last⟩, tick_cut]
theorem tick_inj {x y : ByteArray} (h : x ++ tick = y ++ tick) : x = y := by
 have := congrArg unpB h; rwa [unp_tick, unp_tick] at this
theorem name_size {x : ByteArray} (h : nameB x = true) : 0 < x.size ∧ x.size ≤ 12 := by
 unfold nameB at h
 simp only [Bool.and_eq_true, Bool.not_eq_true', Bool.or_eq_false_iff] at h
 obtain ⟨⟨h1, h2, _⟩, _⟩ := h
 have h1 : (x.size : Int) ≠ 0 := by simpa using h1
 have h2 : ¬ (12 : Int) < (x.size : Int) := of_decide_eq_false h2
 omega
theorem catO_tick {x : ByteArray} (h : x.size < 100) : catO x tick = some (x ++ tick) := by
 unfold catO
 rw [if_pos]
 have : tick.size = 1 := rfl
 rw [this]
 have : IntKind.i64.max = 9223372036854775807 := by decide
 rw [this]; omega
end Go.Proofs.YtphgabghcedphaaGreatDoor
namespace Go.Proofs.YtphgabghcedphaaGreatDoor
open Go Go.Iso Go.Proofs
set_option linter.unusedSimpArgs false
set_option linter.unusedVariables false
set_option maxRecDepth 100000
theorem name_last {x : ByteArray} (h : nameB x = true) : x[x.size - 1]? ≠ some 39 := by
 intro h39
 have hs := (name_size h).1
 unfold nameB at h
 rw [Bool.and_eq_true, List.all_eq_true] at h
 have := h.2 (x.size - 1) (List.mem_range.2 (by omega))
 rw [h39] at this
 have e : (letB ((39 : UInt8).toNat : Int)) = false := by decide
 have e2 : (digB ((39 : UInt8).toNat : Int)) = false := by decide
 rw [Option.all_some, e, e2] at this
 simp at this
theorem name_var {x : ByteArray} (h : nameB x = true) : varB x = true := by
 unfold varB unpB
 rw [if_neg (fun h2 => name_last h h2.2)]; exact h
theorem tick_var {x : ByteArray} (h : nameB x = true) : varB (x ++ tick) = true := by
 unfold varB; rw [unp_tick]; exact h
theorem fine_name {n : NodeA} (h : Fine n) (hn : namedS n.op = true) : nameB n.name = true := by
 obtain ⟨d, fd, fl, h⟩ := h
 rw [okS_eq] at h
 simp only [Bool.and_eq_true] at h
 have := h.2.1
 unfold nameC at this
 rw [hn] at this
 simpa using this
section
variable {V : List ByteArray}
end
section
variable {V : List ByteArray}
end
section
variable {V : List ByteArray}
end
section
variable {V : List ByteArray}
end
end Go.Proofs.YtphgabghcedphaaGreatDoor
namespace Go.Proofs.YtphgabghcedphaaGreatDoor
open Go Go.Iso Go.Proofs
set_option linter.unusedSimpArgs false
set_option linter.unusedVariables false
/-! ### What comes out from some number of rounds on -/
section
variable {ι : Type} {κ : ι → Nat} {α β : Type}
def Ev (κ : ι → Nat) (f : ι → Option α) (P : α → Prop) : Prop := ∃ k0 r, P r ∧ ∀ i, k0 ≤ κ i → f i = some r
theorem Ev.ret {r : α} {P : α → Prop} (h : P r) : Ev κ (fun _ => some r) P := ⟨0, r, h, fun _ _ => rfl⟩
theorem Ev.mono {f : ι → Option α} {P Q : α → Prop} (h : Ev κ f P) (hi : ∀ r, P r → Q r) : Ev κ f Q := by
 obtain ⟨k, r, hp, h⟩ := h; exact ⟨k, r, hi r hp, h⟩
theorem Ev.bind {f : ι → Option α} {g : ι → α → Option β} {P : α → Prop} {Q : β → Prop} (h : Ev κ f P) (hk : ∀ r, P r → Ev κ (fun i => g i r) Q) : Ev κ (fun i => (f i).bind (g i)) Q := by
 obtain ⟨k, r, hp, h⟩ := h
 obtain ⟨k', r', hq, h'⟩ := hk r hp
 exact ⟨max k k', r', hq, fun i hi => by (show (f i).bind (g i) = some r'; rw [h i (by omega)]; exact h' i (by omega))⟩
theorem Ev.op {o : Option α} {g : ι → α → Option β} {Q : β → Prop} (x : α) (h : o = some x) (hk : Ev κ (fun i => g i x) Q) : Ev κ (fun i => o.bind (g i)) Q := by
 subst h; exact hk
theorem Ev.congr {f g : ι → Option α} {P : α → Prop} (k : Nat) (h : ∀ i, k ≤ κ i → f i = g i) (hg : Ev κ g P) : Ev κ f P := by
 obtain ⟨k', r, hp, h'⟩ := hg
 exact ⟨max k k', r, hp, fun i hi => by rw [h i (by omega)]; exact h' i (by omega)⟩
theorem Ev.lift {f : Nat → Option α} {P : α → Prop} (h : Ev id f P) : Ev κ (fun i => f (κ i)) P := by
 obtain ⟨k, r, hp, h⟩ := h; exact ⟨k, r, hp, fun i hi => h _ hi⟩
theorem Ev.iter {S R : Type} {F : ι → (S → Option R) → S → Option R} (Inv : S → Prop) (μ : S → Nat) {P : R → Prop}
  (h : ∀ s, Inv s → ∀ G : ι → S → Option R, (∀ t, Inv t → μ t < μ s → Ev κ (fun i => G i t) P) → Ev κ (fun i => F i (G i) s) P) {s : S} (hs : Inv s) :
  Ev κ (fun i => Iso.iter (κ i) (F i) s) P := by
 have key : ∀ (n : Nat) (s : S) (d : Nat), μ s ≤ n → Inv s → Ev κ (fun i => Iso.iter (κ i - d) (F i) s) P := by
  intro n
  induction n with
  | zero =>
   intro s d hm hs
   refine Ev.congr (d + 1) (fun i hi => ?_) (h s hs (fun i => Iso.iter (κ i - (d + 1)) (F i)) fun t ht hlt => absurd hlt (by omega))
   obtain ⟨e, he⟩ : ∃ e, κ i - d = e + 1 := ⟨κ i - (d + 1), by omega⟩
   rw [he, iter_succ, show e = κ i - (d + 1) by omega]
  | succ n ih =>
   intro s d hm hs
   refine Ev.congr (d + 1) (fun i hi => ?_) (h s hs (fun i => Iso.iter (κ i - (d + 1)) (F i)) fun t ht hlt => ih t (d + 1) (by omega) ht)
   obtain ⟨e, he⟩ : ∃ e, κ i - d = e + 1 := ⟨κ i - (d + 1), by omega⟩
   rw [he, iter_succ, show e = κ i - (d + 1) by omega]
 exact Ev.congr 0 (fun i _ => by simp only [Nat.sub_zero]) (key (μ s) s 0 (Nat.le_refl _) hs)
end
/-! ### Numbers in base 10000 -/
def DG (l : List Int) : Prop := ∀ d ∈ l, 0 ≤ d ∧ d < 10000
def vl : List Int → Int
 | [] => 0
 | d :: l => d + 10000 * vl l
def B (n : Nat) : Int := 10000 ^ n
theorem B_zero : B 0 = 1 := rfl
theorem B_succ {n : Nat} : B (n + 1) = 10000 * B n := by unfold B; rw [Int.pow_succ, Int.mul_comm]
theorem B_pos {n : Nat} : 0 < B n := Int.pow_pos (by omega)
theorem B_le {n m : Nat} (h : n ≤ m) : B n ≤ B m := by
 induction m with
 | zero => obtain rfl : n = 0 := by omega
           exact Int.le_refl _
 | succ m ih =>
  by_cases e : n = m + 1
  ·rw [e]; exact Int.le_refl _
  ·have := ih (by omega); have := @B_pos m; rw [B_succ]; omega
theorem B_add {n m : Nat} : B (n + m) = B n * B m := by unfold B; exact Int.pow_add ..
theorem vl_app {a b : List Int} : vl (a ++ b) = vl a + B a.length * vl b := by
 induction a with
 | nil => simp [vl, B_zero]
 | cons d a ih => simp only [List.cons_append, vl, ih, List.length_cons, B_succ, Int.mul_add, Int.add_assoc, Int.mul_assoc]
theorem vl_one {d : Int} : vl [d] = d := by simp [vl]
theorem DG.nil : DG [] := fun d h => by cases h
theorem DG.app {a b : List Int} (ha : DG a) (hb : DG b) : DG (a ++ b) := fun d h => (List.mem_append.1 h).elim (ha d) (hb d)
theorem DG.one {d : Int} (h0 : 0 ≤ d) (h1 : d < 10000) : DG [d] := fun e h => by obtain rfl := List.mem_singleton.1 h; exact ⟨h0, h1⟩
theorem DG.take {a : List Int} (h : DG a) (n : Nat) : DG (a.take n) := fun d hd => h d (List.mem_of_mem_take hd)
theorem DG.drop {a : List Int} (h : DG a) (n : Nat) : DG (a.drop n) := fun d hd => h d (List.mem_of_mem_drop hd)
theorem DG.get {a : List Int} (h : DG a) {i : Nat} (hi : i < a.length) : 0 ≤ a[i] ∧ a[i] < 10000 := h _ (List.getElem_mem hi)
theorem DG.tail {a : List Int} {d : Int} (h : DG (d :: a)) : DG a := fun e he => h e (List.mem_cons_of_mem _ he)
theorem vl_nn : ∀ {a : List Int}, DG a → 0 ≤ vl a
 | [], _ => Int.le_refl _
 | d :: a, h => by have := vl_nn h.tail; have := h d (List.mem_cons_self ..); unfold vl; omega
theorem vl_lt : ∀ {a : List Int}, DG a → vl a < B a.length
 | [], _ => by simp [vl, B_zero]
 | d :: a, h => by
  have := vl_lt h.tail; have := h d (List.mem_cons_self ..)
  rw [List.length_cons, B_succ]; unfold vl; omega
def NM (l : List Int) : Prop := DG l ∧ l.getLast? ≠ some 0
theorem NM.nil : NM [] := ⟨DG.nil, by simp⟩
theorem NM.ge {a : List Int} (h : NM a) (h0 : a ≠ []) : B (a.length - 1) ≤ vl a := by
 obtain ⟨hd, hl⟩ := h
 have e := List.dropLast_concat_getLast h0
 have hg := List.getLast?_eq_some_getLast h0
 have hm := hd _ (List.getLast_mem h0)
 have h1 : DG a.dropLast := fun d h => hd d (List.dropLast_subset a h)
 have h2 := vl_nn h1
 rw [← e, vl_app, vl_one, List.length_append, List.length_dropLast, List.length_singleton, Nat.add_sub_cancel]
 have hz : a.getLast h0 ≠ 0 := fun hz => hl (by rw [hg, hz])
 have hb := @B_pos (a.length - 1)
 have : B (a.length - 1) * 1 ≤ B (a.length - 1) * a.getLast h0 := Int.mul_le_mul_of_nonneg_left (by omega) (by omega)
 omega
theorem NM.pos {a : List Int} (h : NM a) (h0 : a ≠ []) : 0 < vl a := by have := h.ge h0; have := @B_pos (a.length - 1); omega
theorem NM.len {a : List Int} (h : NM a) {n : Nat} (hv : vl a < B n) : a.length ≤ n := by
 by_cases h0 : a = []
 ·subst h0; simp
 ·have h1 := h.ge h0
  have h2 : a.length ≠ 0 := fun e => h0 (List.length_eq_zero_iff.1 e)
  have h3 : a.length - 1 < n := by
   rcases Nat.lt_or_ge (a.length - 1) n with h | h
   ·exact h
   ·have := B_le h; omega
  omega
theorem NM.mono {a b : List Int} (ha : NM a) (hb : DG b) (h : vl a ≤ vl b) : a.length ≤ b.length := ha.len (by have := vl_lt hb; omega)
theorem NM.nil_iff {a : List Int} (h : NM a) : a = [] ↔ vl a = 0 := by
 constructor
 ·rintro rfl; rfl
 ·intro hv; rcases Classical.em (a = []) with h0 | h0
  ·exact h0
  ·have := h.pos h0; omega
theorem vl_take {a : List Int} {i : Nat} (h : i < a.length) : vl (a.take (i + 1)) = vl (a.take i) + B i * a[i] := by
 rw [List.take_add_one, List.getElem?_eq_getElem h]
 show vl (a.take i ++ [a[i]]) = _
 rw [vl_app, vl_one, List.length_take, Nat.min_eq_left (by omega)]
theorem vl_drop {a : List Int} {i : Nat} (h : i < a.length) : vl (a.drop i) = a[i] + 10000 * vl (a.drop (i + 1)) := by
 rw [List.drop_eq_getElem_cons h]; rfl
theorem vl_set {a : List Int} {i : Nat} {d : Int} (h : i < a.length) : vl (a.set i d) = vl a + B i * (d - a[i]) := by
 induction a generalizing i with
 | nil => simp at h
 | cons e a ih =>
  cases i with
  | zero => simp [vl, B_zero]; omega
  | succ i =>
   simp only [List.length_cons] at h
   have := ih (i := i) (by omega)
   simp only [List.set_cons_succ, vl, this, List.getElem_cons_succ, B_succ, Int.mul_add, Int.mul_assoc]; omega
theorem DG.set {a : List Int} (h : DG a) {i : Nat} {d : Int} (h0 : 0 ≤ d) (h1 : d < 10000) : DG (a.set i d) := fun e he => by
 rcases List.mem_or_eq_of_mem_set he with h2 | h2
 ·exact h e h2
 ·subst h2; exact ⟨h0, h1⟩
theorem vl_zero {n : Nat} : vl (List.replicate n 0) = 0 := by
 induction n with
 | zero => rfl
 | succ n ih => rw [List.replicate_succ]; unfold vl; rw [ih]; rfl
theorem DG.zero {n : Nat} : DG (List.replicate n 0) := fun d h => by obtain ⟨_, rfl⟩ := List.mem_replicate.1 h; omega
theorem lt_of_len {a b : List Int} (ha : DG a) (hb : NM b) (h : a.length < b.length) : vl a < vl b := by
 have h0 : b ≠ [] := fun e => by subst e; simp at h
 have := hb.ge h0; have := vl_lt ha; have := B_le (show a.length ≤ b.length - 1 by omega); omega
theorem lt_of_top {a b : List Int} (ha : DG a) (hb : DG b) (hl : a.length = b.length) {i : Nat} (hi : i < a.length) (h : a.drop (i + 1) = b.drop (i + 1)) (hd : a[i] < b[i]'(by omega)) : vl a < vl b := by
 have ea : vl a = vl (a.take i) + B i * vl (a.drop i) := by
  conv => lhs; rw [← List.take_append_drop i a, vl_app, List.length_take, Nat.min_eq_left (by omega)]
 have eb : vl b = vl (b.take i) + B i * vl (b.drop i) := by
  conv => lhs; rw [← List.take_append_drop i b, vl_app, List.length_take, Nat.min_eq_left (by omega)]
 rw [vl_drop hi] at ea
 rw [vl_drop (show i < b.length by omega), ← h] at eb
 have h1 := vl_lt (ha.take i)
 rw [List.length_take, Nat.min_eq_left (by omega)] at h1
 have h2 := vl_nn (hb.take i)
 generalize vl (a.drop (i + 1)) = t at *
 have h3 : B i * (a[i] + 10000 * t) + B i ≤ B i * (b[i]'(by omega) + 10000 * t) := by
  have : B i * (a[i] + 10000 * t + 1) ≤ B i * (b[i]'(by omega) + 10000 * t) := Int.mul_le_mul_of_nonneg_left (by omega) (Int.le_of_lt B_pos)
  rw [Int.mul_add (B i) (a[i] + 10000 * t) 1, Int.mul_one] at this; exact this
 omega
end Go.Proofs.YtphgabghcedphaaGreatDoor
namespace Go.Proofs.YtphgabghcedphaaGreatDoor
open Go Go.Iso Go.Proofs
set_option linter.unusedSimpArgs false
set_option linter.unusedVariables false
set_option maxRecDepth 100000
/-! ### The natural numbers of the reference: what is computed, from some number of rounds on -/
def lim : Nat := 100000000
theorem ten_must : must ((10000 : Int) != 0) = some () := rfl
theorem tmod_nn {a b : Int} (h : 0 ≤ a) : a.tmod b = a % b := Int.tmod_eq_emod_of_nonneg h
theorem tdiv_nn {a b : Int} (h : 0 ≤ a) : a.tdiv b = a / b := Int.tdiv_eq_ediv_of_nonneg h
theorem idx_get {α : Type} {l : List α} {i : Nat} (h : i < l.length) : idx l (i : Int) = some l[i] := by rw [idx_nat, List.getElem?_eq_getElem h]
theorem app8 {l : List Int} {d : Int} (h : l.length ≤ 8 * lim) : appO 8 l [d] = some (l ++ [d]) := by
 unfold appO; rw [if_pos (by unfold lim at h; simp only [List.length_singleton]; omega)]
theorem ltT {a b : Int} (h : a < b) : decide (a < b) = true := decide_eq_true h
theorem ltF {a b : Int} (h : b ≤ a) : decide (a < b) = false := decide_eq_false (by omega)
theorem leT {a b : Int} (h : a ≤ b) : decide (a ≤ b) = true := decide_eq_true h
theorem leF {a b : Int} (h : b < a) : decide (a ≤ b) = false := decide_eq_false (by omega)
theorem B_len {a : List Int} {n m : Nat} (h : B n < B m) : n < m := by
 rcases Nat.lt_or_ge n m with h1 | h1
 ·exact h1
 ·have := B_le h1; omega
theorem cut_take {l : List Int} {m : Nat} (h : m ≤ l.length) : cutL l none (some (m : Int)) = some (l.take m) := by
 unfold cutL
 simp only [Option.getD_some, Option.getD_none]
 rw [if_pos (by omega)]; simp
theorem trim_ev {l : List Int} (hd : DG l) (hl : l.length ≤ 8 * lim) : Ev id (fun k => r01_trim k l) fun r => NM r ∧ vl r = vl l ∧ r.length ≤ l.length := by
 unfold r01_trim
 unfold lim at hl
 refine Ev.bind (P := fun n : Int => ∃ m : Nat, n = m ∧ m ≤ l.length ∧ vl (l.take m) = vl l ∧ (l.take m).getLast? ≠ some 0) ?_ ?_
 ·refine Ev.iter (fun n : Int => ∃ m : Nat, n = m ∧ m ≤ l.length ∧ vl (l.take m) = vl l) (fun n => n.toNat) ?_ ⟨l.length, rfl, Nat.le_refl _, by rw [List.take_length]⟩
  rintro n ⟨m, rfl, hm, hv⟩ G hG
  cases m with
  | zero =>
   simp only [ltF (show ((0 : Nat) : Int) ≤ 0 by omega), Bool.false_eq_true, if_false, Option.bind_some, outM_eq, Out.fin_out]
   exact Ev.ret ⟨0, rfl, hm, hv, by simp⟩
  | succ m =>
   have e : IntKind.wrap .i64 (((m + 1 : Nat) : Int) - 1) = (m : Int) := by rw [w64 (by omega) (by omega)]; omega
   have hm' : m < l.length := by omega
   simp only [ltT (show (0 : Int) < ((m + 1 : Nat) : Int) by omega), if_true, e, idx_get hm', Option.bind_some]
   by_cases hz : l[m] = 0
   ·simp only [hz, beq_self_eq_true, if_true, Option.bind_some, Out.fin_go]
    refine hG _ ⟨m, rfl, by omega, ?_⟩ (by simp)
    rw [vl_take hm', hz, Int.mul_zero, Int.add_zero] at hv; exact hv
   ·simp only [show (l[m] == 0) = false from beq_eq_false_iff_ne.2 hz, Bool.false_eq_true, if_false, Option.bind_some, outM_eq, Out.fin_out]
    refine Ev.ret ⟨m + 1, rfl, hm, hv, ?_⟩
    rw [List.take_add_one, List.getElem?_eq_getElem hm']
    show (l.take m ++ [l[m]]).getLast? ≠ some 0
    simp only [List.getLast?_append, List.getLast?_singleton, Option.some_or, ne_eq, Option.some.injEq]; exact hz
 ·rintro n ⟨m, rfl, hm, hv, hg⟩
  exact Ev.op _ (cut_take hm) (Ev.ret ⟨⟨hd.take m, hg⟩, hv, by rw [List.length_take]; omega⟩)
theorem B_big {n : Nat} (h : 20 ≤ n) : 100000000000000000000000000000000000000000000000000000000000000000000000000000000 ≤ B n := by
 have := B_le h; have e : B 20 = 100000000000000000000000000000000000000000000000000000000000000000000000000000000 := by decide +kernel
 omega
theorem carry (b s : Int) : b * (s % 10000) + 10000 * b * (s / 10000) = b * s := by
 have h := Int.emod_add_mul_ediv s 10000
 calc b * (s % 10000) + 10000 * b * (s / 10000) = b * (s % 10000 + 10000 * (s / 10000)) := by rw [Int.mul_add, Int.mul_comm 10000 b, Int.mul_assoc]
  _ = b * s := by rw [h]
theorem Int_ev {n : Int} (h0 : 0 ≤ n) (h1 : n ≤ 4611686018427387904) : Ev id (fun k => r01_Int k n) fun r => NM r ∧ vl r = n := by
 unfold r01_Int
 refine Ev.bind (P := fun r => NM r ∧ vl r = n) ?_ fun r hr => Ev.ret hr
 refine Ev.iter (fun s : Int × List Int => 0 ≤ s.1 ∧ s.1 ≤ n ∧ DG s.2 ∧ vl s.2 + B s.2.length * s.1 = n ∧ (s.1 = 0 → s.2.getLast? ≠ some 0)) (fun s => s.1.toNat) ?_ ⟨h0, Int.le_refl _, DG.nil, by simp [vl, B_zero], by simp⟩
 rintro ⟨z, out⟩ ⟨a0, a1, a2, a3, a4⟩ G hG
 dsimp only at a0 a1 a2 a3 a4 hG ⊢
 by_cases hz : z = 0
 ·subst hz
  simp only [ltF (Int.le_refl 0), Bool.false_eq_true, if_false]
  exact Ev.ret ⟨⟨a2, a4 rfl⟩, by omega⟩
 ·have hv := vl_nn a2
  have hB : B out.length * 1 ≤ B out.length * z := Int.mul_le_mul_of_nonneg_left (by omega) (Int.le_of_lt B_pos)
  have hl : out.length < 20 := by
   rcases Nat.lt_or_ge out.length 20 with h | h
   ·exact h
   ·have := B_big h; omega
  simp only [ltT (show 0 < z by omega), if_true, ten_must, Option.bind_some, app8 (show out.length ≤ 8 * lim by unfold lim; omega), tmod_nn a0, tdiv_nn a0, w64 (show -9223372036854775808 ≤ z / 10000 by omega) (show z / 10000 ≤ 9223372036854775807 by omega)]
  refine hG _ ⟨by omega, by omega, a2.app (DG.one (by omega) (by omega)), ?_, fun hz' => ?_⟩ (by omega)
  ·dsimp only; rw [vl_app, vl_one, List.length_append, List.length_singleton, B_succ]
   have := carry (B out.length) z; omega
  ·simp only [List.getLast?_append, List.getLast?_singleton, Option.some_or, ne_eq, Option.some.injEq]; omega
theorem Small_ev {a : List Int} {k c : Int} (hd : DG a) (hl : a.length ≤ 4 * lim) (k0 : 0 ≤ k) (k1 : k ≤ 65536) (c0 : 0 ≤ c) (c1 : c < 65536) :
  Ev id (fun K => r01_Small K a k c) fun r => NM r ∧ vl r = vl a * k + c ∧ r.length ≤ a.length + 2 := by
 unfold r01_Small
 unfold lim at hl
 have hva := vl_nn hd
 have hvb := vl_lt hd
 have hV : vl a * k + c < B (a.length + 2) := by
  have h1 : vl a * k ≤ vl a * 65536 := Int.mul_le_mul_of_nonneg_left k1 hva
  have h2 : B (a.length + 2) = 10000 * (10000 * B a.length) := by rw [show a.length + 2 = a.length + 1 + 1 from rfl, B_succ, B_succ]
  omega
 refine Ev.op [] (by rw [w64 (by omega) (by omega)]; unfold makC; rw [if_pos (by omega)]; rfl) ?_
 refine Ev.bind (P := fun s : Int × List Int => 0 ≤ s.1 ∧ s.1 ≤ 65536 ∧ DG s.2 ∧ s.2.length = a.length ∧ vl s.2 + B s.2.length * s.1 = vl a * k + c) ?_ ?_
 ·refine Ev.iter (fun s : Int × Int × List Int => ∃ i : Nat, s.2.1 = i ∧ i ≤ a.length ∧ 0 ≤ s.1 ∧ s.1 ≤ 65536 ∧ DG s.2.2 ∧ s.2.2.length = i ∧ vl s.2.2 + B i * s.1 = vl (a.take i) * k + c) (fun s => a.length - s.2.1.toNat) ?_ ⟨0, rfl, by omega, c0, by omega, DG.nil, rfl, by simp [vl, B_zero]⟩
  rintro ⟨z, i', out⟩ ⟨i, rfl, hi, a0, a1, a2, a3, a4⟩ G hG
  dsimp only at a0 a1 a2 a3 a4 hG ⊢
  by_cases hi' : i < a.length
  ·have hdi := hd.get hi'
   have p0 : 0 ≤ a[i] * k := Int.mul_nonneg hdi.1 k0
   have p1 : a[i] * k ≤ 9999 * 65536 := Int.le_trans (Int.mul_le_mul_of_nonneg_right (show a[i] ≤ 9999 by omega) k0) (Int.mul_le_mul_of_nonneg_left k1 (by omega))
   generalize hp : a[i] * k = p at p0 p1
   simp only [ltT (show (i : Int) < (a.length : Int) by omega), if_true, idx_get hi', hp, w64 (show -9223372036854775808 ≤ p by omega) (by omega), w64 (show -9223372036854775808 ≤ z + p by omega) (by omega), tmod_nn (show 0 ≤ z + p by omega), tdiv_nn (show 0 ≤ z + p by omega), ten_must, Option.bind_some, app8 (show out.length ≤ 8 * lim by unfold lim; omega), w64 (show -9223372036854775808 ≤ (z + p) / 10000 by omega) (by omega), w64s (show i < 9223372036854775807 by omega)]
   refine hG _ ⟨i + 1, rfl, by omega, by omega, by omega, a2.app (DG.one (by omega) (by omega)), by simp [a3], ?_⟩ (by simp only [Int.toNat_natCast]; omega)
   dsimp only; rw [vl_app, vl_one, a3, B_succ, vl_take hi', Int.add_mul, Int.mul_assoc (B i), hp]
   have h1 := carry (B i) (z + p)
   rw [Int.mul_add] at h1; omega
  ·obtain rfl : i = a.length := by omega
   simp only [ltF (Int.le_refl (a.length : Int)), Bool.false_eq_true, if_false]
   rw [List.take_length] at a4
   exact Ev.ret ⟨a0, a1, a2, a3, by rw [a3]; exact a4⟩
 ·rintro ⟨z, out⟩ ⟨a0, a1, a2, a3, a4⟩
  dsimp only at a0 a1 a2 a3 a4 ⊢
  refine Ev.bind (P := fun o => DG o ∧ vl o = vl a * k + c ∧ o.length ≤ a.length + 2) ?_ fun o ho => ?_
  ·refine Ev.iter (fun s : Int × List Int => 0 ≤ s.1 ∧ s.1 ≤ 65536 ∧ DG s.2 ∧ vl s.2 + B s.2.length * s.1 = vl a * k + c ∧ s.2.length ≤ a.length + 2) (fun s => s.1.toNat) ?_ ⟨a0, a1, a2, a4, by show out.length ≤ _; omega⟩
   rintro ⟨z, out⟩ ⟨a0, a1, a2, a4, a5⟩ G hG
   dsimp only at a0 a1 a2 a4 a5 hG ⊢
   by_cases hz : z = 0
   ·subst hz
    simp only [ltF (Int.le_refl 0), Bool.false_eq_true, if_false]
    exact Ev.ret ⟨a2, by omega, a5⟩
   ·have hv := vl_nn a2
    have hB : B out.length * 1 ≤ B out.length * z := Int.mul_le_mul_of_nonneg_left (by omega) (Int.le_of_lt B_pos)
    have hlt : out.length < a.length + 2 := B_len (a := a) (by omega)
    simp only [ltT (show 0 < z by omega), if_true, ten_must, Option.bind_some, app8 (show out.length ≤ 8 * lim by unfold lim; omega), tmod_nn a0, tdiv_nn a0, w64 (show -9223372036854775808 ≤ z / 10000 by omega) (show z / 10000 ≤ 9223372036854775807 by omega)]
    refine hG _ ⟨by omega, by omega, a2.app (DG.one (by omega) (by omega)), ?_, by simp; omega⟩ (by omega)
    dsimp only; rw [vl_app, vl_one, List.length_append, List.length_singleton, B_succ]
    have := carry (B out.length) z; omega
  ·refine Ev.bind (trim_ev ho.1 (by unfold lim; omega)) fun r hr => Ev.ret ⟨hr.1, by omega, by omega⟩
end Go.Proofs.YtphgabghcedphaaGreatDoor
namespace Go.Proofs.YtphgabghcedphaaGreatDoor
open Go Go.Iso Go.Proofs
set_option linter.unusedSimpArgs false
set_option linter.unusedVariables false
set_option maxRecDepth 100000
theorem mak8 {n : Nat} (h : n ≤ 8 * lim) : makO 8 (n : Int) (0 : Int) = some (List.replicate n 0) := by
 unfold makO; rw [if_pos ⟨by omega, by unfold lim at h; simp only [Int.toNat_natCast]; omega⟩, Int.toNat_natCast]
theorem w64p {k : Nat} (h : k < 9223372036854775807) : IntKind.wrap .i64 (((k + 1 : Nat) : Int) - 1) = (k : Int) := by rw [w64 (by omega) (by omega)]; omega
theorem drop_set {l : List Int} {i : Nat} {d : Int} : (l.set i d).drop (i + 1) = l.drop (i + 1) := by rw [List.drop_set_of_lt (by omega)]
theorem vl_drop_set {l : List Int} {i : Nat} {d : Int} (h : i < l.length) : vl ((l.set i d).drop i) = d + 10000 * vl (l.drop (i + 1)) := by
 rw [vl_drop (by simpa using h), drop_set, List.getElem_set_self]
theorem Split_ev {a : List Int} {k : Int} (hd : DG a) (hl : a.length ≤ 4 * lim) (k0 : 0 < k) (k1 : k ≤ 65536) :
  Ev id (fun K => r01_Split K a k) fun r => NM r.1 ∧ vl a = vl r.1 * k + r.2 ∧ 0 ≤ r.2 ∧ r.2 < k ∧ r.1.length ≤ a.length := by
 unfold r01_Split
 refine Ev.op _ (mak8 (by omega)) ?_
 unfold lim at hl
 have hk : must (k != 0) = some () := by unfold must; rw [if_pos (by simpa using (by omega : k ≠ 0))]
 refine Ev.bind (P := fun s : Int × List Int => DG s.2 ∧ s.2.length = a.length ∧ 0 ≤ s.1 ∧ s.1 < k ∧ vl a = vl s.2 * k + s.1) ?_ ?_
 ·refine Ev.iter (fun s : Int × Int × List Int => ∃ i : Nat, s.2.1 = (i : Int) - 1 ∧ i ≤ a.length ∧ DG s.2.2 ∧ s.2.2.length = a.length ∧ 0 ≤ s.1 ∧ s.1 < k ∧ vl (a.drop i) = vl (s.2.2.drop i) * k + s.1) (fun s => (s.2.1 + 1).toNat) ?_ ⟨a.length, by rw [w64 (by omega) (by omega)], by omega, DG.zero, by simp, by dsimp only; omega, k0, by simp [vl]⟩
  rintro ⟨r, i', out⟩ ⟨i, e, hi, a0, a1, a2, a3, a4⟩ G hG
  dsimp only at e a0 a1 a2 a3 a4 hG ⊢
  subst e
  cases i with
  | zero =>
   simp only [leF (show (((0 : Nat) : Int) - 1) < 0 by omega), Bool.false_eq_true, if_false]
   rw [List.drop_zero, List.drop_zero] at a4
   exact Ev.ret ⟨a0, a1, a2, a3, a4⟩
  | succ i =>
   have hi' : i < a.length := by omega
   have hda := hd.get hi'
   have e : (((i + 1 : Nat) : Int) - 1) = (i : Int) := by omega
   have q0 : 0 ≤ (r * 10000 + a[i]) % k := Int.emod_nonneg _ (by omega)
   have q1 : (r * 10000 + a[i]) % k < k := Int.emod_lt_of_pos _ k0
   have q2 : 0 ≤ (r * 10000 + a[i]) / k := Int.ediv_nonneg (by omega) (by omega)
   have q3 : (r * 10000 + a[i]) / k < 10000 := by
    refine Int.ediv_lt_of_lt_mul k0 ?_
    omega
   have q4 := Int.emod_add_mul_ediv (r * 10000 + a[i]) k
   simp only [e] at hG ⊢
   simp only [leT (show (0 : Int) ≤ (i : Int) by omega), if_true, idx_get hi', hk, idx_get (show i < out.length by omega), Option.bind_some, w64 (show -9223372036854775808 ≤ r * 10000 by omega) (by omega), w64 (show -9223372036854775808 ≤ r * 10000 + a[i] by omega) (by omega), tmod_nn (show 0 ≤ r * 10000 + a[i] by omega), tdiv_nn (show 0 ≤ r * 10000 + a[i] by omega), w64 (show -9223372036854775808 ≤ (r * 10000 + a[i]) / k by omega) (by omega), w64 (show -9223372036854775808 ≤ (i : Int) - 1 by omega) (by omega), Int.toNat_natCast]
   generalize (r * 10000 + a[i]) / k = q at *
   generalize (r * 10000 + a[i]) % k = m at *
   refine hG _ ⟨i, rfl, by omega, a0.set q2 q3, by simp [a1], q0, q1, ?_⟩ (by dsimp only; omega)
   dsimp only
   rw [vl_drop hi', vl_drop_set (by omega), a4, Int.add_mul, Int.mul_assoc]
   have := Int.mul_comm k q
   generalize vl (List.drop (i + 1) out) * k = t at *
   omega
 ·rintro ⟨r, out⟩ ⟨a0, a1, a2, a3, a4⟩
  dsimp only at a0 a1 a2 a3 a4 ⊢
  refine Ev.bind (trim_ev a0 (by unfold lim; omega)) fun t ht => Ev.ret ⟨ht.1, by dsimp only; rw [ht.2.1]; exact a4, a2, a3, by dsimp only; omega⟩
theorem Words_ev {a : List Int} (hn : NM a) (hl : a.length ≤ 2 * lim) : Ev id (fun K => r01_Words K a) fun r => a.length ≤ 4 * r.length := by
 unfold r01_Words
 unfold lim at hl
 refine Ev.bind (P := fun h : List Int => a.length ≤ 2 * h.length ∧ h.length ≤ a.length) ?_ ?_
 ·refine Ev.iter (fun s : List Int × List Int => NM s.1 ∧ a.length ≤ s.1.length + 2 * s.2.length ∧ s.1.length + s.2.length ≤ a.length) (fun s => s.1.length) ?_ ⟨hn, by simp, by simp⟩
  rintro ⟨x, hs⟩ ⟨a0, a1, a2⟩ G hG
  dsimp only at a0 a1 a2 hG ⊢
  by_cases h0 : x = []
  ·subst h0
   simp only [List.length_nil, ltF (show ((0 : Nat) : Int) ≤ 0 by omega), Bool.false_eq_true, if_false]
   rw [List.length_nil] at a1 a2
   exact Ev.ret ⟨by omega, by omega⟩
  ·have hp : 0 < x.length := by cases x with | nil => exact absurd rfl h0 | cons => simp
   simp only [ltT (show (0 : Int) < (x.length : Int) by omega), if_true]
   refine Ev.bind (Split_ev a0.1 (by unfold lim; omega) (by omega) (by omega)) fun q hq => ?_
   obtain ⟨b0, b1, b2, b3, b4⟩ := hq
   refine Ev.op _ (app8 (by unfold lim; omega)) ?_
   have h1 := vl_lt a0.1
   have h2 : q.1.length ≤ x.length - 1 := by
    refine b0.len ?_
    obtain ⟨n, hx⟩ : ∃ n, x.length = n + 1 := ⟨x.length - 1, by omega⟩
    rw [hx, Nat.add_sub_cancel]
    rw [hx, B_succ] at h1
    have := @B_pos n
    omega
   have h3 : x.length ≤ q.1.length + 2 := by
    refine a0.len ?_
    have := vl_lt b0.1
    have := @B_pos q.1.length
    rw [show q.1.length + 2 = q.1.length + 1 + 1 from rfl, B_succ, B_succ]; omega
   exact hG _ ⟨b0, by dsimp only; rw [List.length_append, List.length_singleton]; omega, by dsimp only; rw [List.length_append, List.length_singleton]; omega⟩ (by dsimp only; omega)
 ·rintro hs ⟨h1, h2⟩
  refine Ev.bind (P := fun r : List Int => a.length ≤ 4 * r.length) ?_ fun r hr => Ev.ret hr
  refine Ev.iter (fun s : Int × List Int => s.1 = 2 * s.2.length ∧ s.2.length ≤ hs.length + 1) (fun s => hs.length - s.1.toNat) ?_ ⟨by simp, by simp⟩
  rintro ⟨i, out⟩ ⟨a0, a1⟩ G hG
  dsimp only at a0 a1 hG ⊢
  subst a0
  by_cases hi : 2 * out.length < hs.length
  ·obtain ⟨j, hj⟩ : ∃ j : Nat, (2 * (out.length : Int)) = (j : Int) ∧ j = 2 * out.length := ⟨2 * out.length, by omega, rfl⟩
   have hj' := hj.2
   have ap : ∀ v : Int, appO 4 out [v] = some (out ++ [v]) := fun v => by
    unfold appO; rw [if_pos (by simp only [List.length_singleton]; omega)]
   have hw : IntKind.wrap .i64 ((j : Int) + 2) = ((2 * (out.length + 1) : Nat) : Int) := by rw [w64 (by omega) (by omega)]; omega
   have hG' : ∀ v : Int, Ev id (fun i => G i (((2 * (out.length + 1) : Nat) : Int), out ++ [v])) fun r => a.length ≤ 4 * r.length := fun v => hG _ ⟨by simp, by simp; omega⟩ (by dsimp only; omega)
   simp only [hj.1, ltT (show (j : Int) < (hs.length : Int) by omega), if_true, idx_get (show j < hs.length by omega), Option.bind_some, w64s (show j < 9223372036854775807 by omega)]
   by_cases h1 : j + 1 < hs.length
   ·simp only [ltT (show ((j + 1 : Nat) : Int) < (hs.length : Int) by omega), if_true, idx_get h1, Option.bind_some, show must (decide ((0 : Int) ≤ 16)) = some () from rfl, ap, hw]
    exact hG' _
   ·simp only [ltF (show (hs.length : Int) ≤ ((j + 1 : Nat) : Int) by omega), Bool.false_eq_true, if_false, Option.bind_some, ap, hw]
    exact hG' _
  ·simp only [ltF (show (hs.length : Int) ≤ 2 * (out.length : Int) by omega), Bool.false_eq_true, if_false]
   exact Ev.ret (by omega)
theorem and16 {x : Int} (h0 : 0 ≤ x) (h1 : x < 4294967296) : bAnd .u32 x 65535 = x % 65536 := by
 obtain ⟨n, rfl⟩ : ∃ n : Nat, x = n := ⟨x.toNat, by omega⟩
 unfold bAnd
 have e : (BitVec.ofInt IntKind.u32.bits (n : Int) &&& BitVec.ofInt IntKind.u32.bits 65535).toNat = n % 65536 := by
  show (BitVec.ofInt 32 (n : Int) &&& BitVec.ofInt 32 65535).toNat = n % 65536
  rw [BitVec.toNat_and, BitVec.ofInt_natCast, BitVec.toNat_ofNat, show (BitVec.ofInt 32 65535).toNat = 2 ^ 16 - 1 from rfl, Nat.and_two_pow_sub_one_eq_mod]
  omega
 rw [e]
 simp [IntKind.wrap, IntKind.bits, IntKind.signed]
 omega
theorem shr16 {x : Int} : bShr .u32 x 16 = x / 65536 := by
 unfold bShr
 show x.fdiv (2 ^ 16) = _
 rw [Int.fdiv_eq_ediv_of_nonneg _ (by decide)]; rfl
theorem Of_ev {ws : List Int} (hw : ∀ z ∈ ws, 0 ≤ z ∧ z < 4294967296) (hl : ws.length ≤ lim / 2) :
  Ev id (fun K => r01_Of K ws) fun r => NM r ∧ r.length ≤ 4 * ws.length ∧ (ws ≠ [] → ws.getLast? ≠ some 0 → 0 < vl r) := by
 unfold r01_Of
 unfold lim at hl
 refine Ev.bind (P := fun r => NM r ∧ r.length ≤ 4 * ws.length ∧ (ws ≠ [] → ws.getLast? ≠ some 0 → 0 < vl r)) ?_ fun r hr => Ev.ret hr
 refine Ev.iter (fun s : List Int × Int => ∃ i : Nat, s.2 = (i : Int) - 1 ∧ i ≤ ws.length ∧ NM s.1 ∧ s.1.length ≤ 4 * (ws.length - i) ∧ (i < ws.length → ws.getLast? ≠ some 0 → 0 < vl s.1)) (fun s => (s.2 + 1).toNat) ?_ ⟨ws.length, by rw [w64 (by omega) (by omega)], by omega, NM.nil, by simp, fun h => by omega⟩
 rintro ⟨out, i'⟩ ⟨i, e, hi, a0, a1, a2⟩ G hG
 dsimp only at e a0 a1 a2 hG ⊢
 subst e
 cases i with
 | zero =>
  simp only [leF (show (((0 : Nat) : Int) - 1) < 0 by omega), Bool.false_eq_true, if_false]
  exact Ev.ret ⟨a0, by omega, fun h1 h2 => a2 (by cases ws with | nil => exact absurd rfl h1 | cons => simp) h2⟩
 | succ i =>
  have hi' : i < ws.length := by omega
  have hz := hw _ (List.getElem_mem hi')
  have e : (((i + 1 : Nat) : Int) - 1) = (i : Int) := by omega
  simp only [e] at hG ⊢
  simp only [leT (show (0 : Int) ≤ (i : Int) by omega), if_true, idx_get hi', Option.bind_some, show must (decide ((0 : Int) ≤ 16)) = some () from rfl, shr16, and16 hz.1 hz.2, w64 (show -9223372036854775808 ≤ ws[i] / 65536 by omega) (by omega), w64 (show -9223372036854775808 ≤ ws[i] % 65536 by omega) (by omega), w64 (show -9223372036854775808 ≤ (i : Int) - 1 by omega) (by omega)]
  refine Ev.bind (Small_ev a0.1 (by unfold lim; omega) (by omega) (by omega) (by omega) (by omega)) fun u hu => ?_
  refine Ev.bind (Small_ev hu.1.1 (by unfold lim; omega) (by omega) (by omega) (by omega) (by omega)) fun v hv => ?_
  refine hG _ ⟨i, rfl, by omega, hv.1, by dsimp only; omega, fun _ h0 => ?_⟩ (by dsimp only; omega)
  dsimp only
  have n0 := vl_nn a0.1
  by_cases hil : i + 1 < ws.length
  ·have := a2 hil h0
   rw [hv.2.1, hu.2.1]; omega
  ·have hne : ws[i] ≠ 0 := fun h => h0 (by
    rw [List.getLast?_eq_getElem?, List.getElem?_eq_getElem (by omega)]
    congr 1
    rw [← h]; congr 1; omega)
   rw [hv.2.1, hu.2.1]; omega
theorem Cmp_ev {a b : List Int} (ha : NM a) (hb : NM b) (hl : a.length ≤ 8 * lim) :
  Ev id (fun K => r01_Cmp K a b) fun r => (r = -1 ∧ vl a < vl b) ∨ (r = 0 ∧ vl a = vl b) ∨ (r = 1 ∧ vl b < vl a) := by
 unfold r01_Cmp
 unfold lim at hl
 by_cases hn : a.length = b.length
 ·simp only [hn, bne_self_eq_false, Bool.false_eq_true, if_false]
  refine Ev.bind (P := fun o => (o = .out (-1) ∧ vl a < vl b) ∨ (o = .go () ∧ vl a = vl b) ∨ (o = .out 1 ∧ vl b < vl a)) ?_ ?_
  ·refine Ev.iter (fun s : Int => ∃ i : Nat, s = (i : Int) - 1 ∧ i ≤ a.length ∧ a.drop i = b.drop i) (fun s => (s + 1).toNat) ?_ ⟨b.length, by rw [w64 (by omega) (by omega)], by omega, by rw [List.drop_of_length_le (by omega), List.drop_of_length_le (by omega)]⟩
   rintro s ⟨i, rfl, hi, he⟩ G hG
   cases i with
   | zero =>
    simp only [leF (show (((0 : Nat) : Int) - 1) < 0 by omega), Bool.false_eq_true, if_false]
    rw [List.drop_zero, List.drop_zero] at he
    exact Ev.ret (.inr (.inl ⟨rfl, by rw [he]⟩))
   | succ i =>
    have hi' : i < a.length := by omega
    have hib : i < b.length := by omega
    have e : (((i + 1 : Nat) : Int) - 1) = (i : Int) := by omega
    simp only [e] at hG ⊢
    simp only [leT (show (0 : Int) ≤ (i : Int) by omega), if_true, idx_get hi', idx_get hib, Option.bind_some, w64 (show -9223372036854775808 ≤ (i : Int) - 1 by omega) (by omega)]
    by_cases hx : a[i] = b[i]
    ·simp only [hx, bne_self_eq_false, Bool.false_eq_true, if_false]
     exact hG _ ⟨i, rfl, by omega, by rw [List.drop_eq_getElem_cons hi', List.drop_eq_getElem_cons hib, he, hx]⟩ (by omega)
    ·simp only [bne_iff_ne.2 hx, if_true]
     by_cases hlt : a[i] < b[i]
     ·simp only [ltT hlt, if_true, outM_eq]
      exact Ev.ret (.inl ⟨rfl, lt_of_top ha.1 hb.1 hn hi' he hlt⟩)
     ·simp only [ltF (show b[i] ≤ a[i] by omega), Bool.false_eq_true, if_false, outM_eq]
      exact Ev.ret (.inr (.inr ⟨rfl, lt_of_top hb.1 ha.1 hn.symm hib he.symm (by omega)⟩))
  ·rintro o (⟨rfl, h⟩ | ⟨rfl, h⟩ | ⟨rfl, h⟩)
   ·exact Ev.ret (.inl ⟨rfl, h⟩)
   ·exact Ev.ret (.inr (.inl ⟨rfl, h⟩))
   ·exact Ev.ret (.inr (.inr ⟨rfl, h⟩))
 ·simp only [bne_iff_ne.2 (show (a.length : Int) ≠ (b.length : Int) by omega), if_true]
  by_cases hlt : a.length < b.length
  ·simp only [ltT (show (a.length : Int) < (b.length : Int) by omega), if_true]
   exact Ev.ret (.inl ⟨rfl, lt_of_len ha.1 hb hlt⟩)
  ·simp only [ltF (show (b.length : Int) ≤ (a.length : Int) by omega), Bool.false_eq_true, if_false]
   exact Ev.ret (.inr (.inr ⟨rfl, lt_of_len hb.1 ha (by omega)⟩))
end Go.Proofs.YtphgabghcedphaaGreatDoor
namespace Go.Proofs.YtphgabghcedphaaGreatDoor
open Go Go.Iso Go.Proofs
set_option linter.unusedSimpArgs false
set_option linter.unusedVariables false
set_option maxRecDepth 100000
def dg (a : List Int) (i : Nat) : Int := (a[i]?).getD 0
theorem vl_take' {a : List Int} {i : Nat} : vl (a.take (i + 1)) = vl (a.take i) + B i * dg a i := by
 unfold dg
 by_cases h : i < a.length
 ·rw [vl_take h, List.getElem?_eq_getElem h]; rfl
 ·rw [List.take_of_length_le (by omega), List.take_of_length_le (by omega), List.getElem?_eq_none (by omega)]; simp
theorem DG.dg {a : List Int} (h : DG a) (i : Nat) : 0 ≤ dg a i ∧ dg a i < 10000 := by
 unfold Proofs.YtphgabghcedphaaGreatDoor.dg
 by_cases hi : i < a.length
 ·rw [List.getElem?_eq_getElem hi]; exact h.get hi
 ·rw [List.getElem?_eq_none (by omega)]; simp
theorem dg_step {a : List Int} {i : Nat} {z : Int} (f : Int → Int) (h0 : f 0 = z) : (if decide ((i : Int) < (a.length : Int)) then (idx a (i : Int)).bind fun x => some (f x) else some z) = some (f (dg a i)) := by
 unfold dg
 by_cases h : i < a.length
 ·rw [ltT (by omega), if_pos rfl, idx_get h, List.getElem?_eq_getElem h]; rfl
 ·rw [ltF (by omega), List.getElem?_eq_none (by omega), ← h0]; rfl
theorem last_ne {a : List Int} (h : NM a) {i : Nat} (hi : i + 1 = a.length) : dg a i ≠ 0 := fun h0 => h.2 (by
 rw [List.getLast?_eq_getElem?, ← hi, Nat.add_sub_cancel, List.getElem?_eq_getElem (by omega)]
 unfold dg at h0; rw [List.getElem?_eq_getElem (by omega)] at h0
 exact congrArg some h0)
theorem Add_ev {a b : List Int} (ha : NM a) (hb : NM b) (hla : a.length ≤ 2 * lim) (hlb : b.length ≤ 2 * lim) :
  Ev id (fun K => r01_Add K a b) fun r => NM r ∧ vl r = vl a + vl b ∧ r.length ≤ a.length + b.length + 1 := by
 unfold r01_Add
 unfold lim at hla hlb
 refine Ev.bind (P := fun r => NM r ∧ vl r = vl a + vl b ∧ r.length ≤ a.length + b.length + 1) ?_ fun r hr => Ev.ret hr
 refine Ev.iter (fun s : Int × Int × List Int => ∃ i : Nat, s.2.1 = i ∧ s.2.2.length = i ∧ i ≤ a.length + b.length + 1 ∧ 0 ≤ s.1 ∧ s.1 ≤ 1 ∧ DG s.2.2 ∧ vl s.2.2 + B i * s.1 = vl (a.take i) + vl (b.take i) ∧ (i = a.length + b.length + 1 → s.1 = 0) ∧ (a.length ≤ i → b.length ≤ i → s.1 = 0 → s.2.2.getLast? ≠ some 0)) (fun s => a.length + b.length + 1 - s.2.1.toNat) ?_ ⟨0, rfl, rfl, by omega, Int.le_refl _, by dsimp only; omega, DG.nil, by simp [vl, B_zero], fun _ => rfl, fun _ _ _ => by simp⟩
 rintro ⟨c, i', out⟩ ⟨i, rfl, hi, hil, a0, a1, a2, a3, a4, a5⟩ G hG
 dsimp only at hi a0 a1 a2 a3 a4 a5 hG ⊢
 have hg : (if decide ((i : Int) < (a.length : Int)) then some true else if decide ((i : Int) < (b.length : Int)) then some true else some (decide (0 < c))) = some (decide (i < a.length ∨ i < b.length ∨ 0 < c)) := by
  by_cases h1 : i < a.length
  ·rw [ltT (by omega), if_pos rfl, decide_eq_true (Or.inl h1)]
  ·rw [ltF (by omega)]
   by_cases h2 : i < b.length
   ·rw [ltT (show (i : Int) < (b.length : Int) by omega), decide_eq_true (show i < a.length ∨ i < b.length ∨ 0 < c from .inr (.inl h2))]; rfl
   ·rw [ltF (show (b.length : Int) ≤ (i : Int) by omega)]
    by_cases h3 : 0 < c
    ·rw [ltT h3, decide_eq_true (show i < a.length ∨ i < b.length ∨ 0 < c from .inr (.inr h3))]; rfl
    ·rw [ltF (by omega), decide_eq_false (by omega)]; rfl
 simp only [hg, Option.bind_some]
 by_cases hc : i < a.length ∨ i < b.length ∨ 0 < c
 ·have d1 := ha.1.dg i
  have d2 := hb.1.dg i
  have s1 := dg_step (a := a) (i := i) (z := c) (fun x => IntKind.wrap .i64 (c + x)) (by rw [Int.add_zero, w64 (by omega) (by omega)])
  have s2 := dg_step (a := b) (i := i) (z := c + dg a i) (fun x => IntKind.wrap .i64 (c + dg a i + x)) (by rw [Int.add_zero, w64 (by omega) (by omega)])
  have w1 : IntKind.wrap .i64 (c + dg a i) = c + dg a i := w64 (by omega) (by omega)
  have w2 : IntKind.wrap .i64 (c + dg a i + dg b i) = c + dg a i + dg b i := w64 (by omega) (by omega)
  simp only [decide_eq_true hc, if_true, Out.fin_go, s1, w1, s2, w2, Option.bind_some, ten_must]
  have t1 := @vl_take' a i
  have t2 := @vl_take' b i
  have l1 : i + 1 = a.length → dg a i ≠ 0 := last_ne ha
  have l2 : i + 1 = b.length → dg b i ≠ 0 := last_ne hb
  have hfit : i < a.length + b.length + 1 := by
   rcases Nat.lt_or_ge i (a.length + b.length + 1) with h | h
   ·exact h
   ·have := a4 (by omega); omega
  have z1 : a.length ≤ i → dg a i = 0 := fun h => by unfold dg; rw [List.getElem?_eq_none h]; rfl
  have z2 : b.length ≤ i → dg b i = 0 := fun h => by unfold dg; rw [List.getElem?_eq_none h]; rfl
  generalize dg a i = x at *
  generalize dg b i = y at *
  simp only [tmod_nn (show 0 ≤ c + x + y by omega), tdiv_nn (show 0 ≤ c + x + y by omega), app8 (show out.length ≤ 8 * lim by unfold lim; omega), Option.bind_some, w64 (show -9223372036854775808 ≤ (c + x + y) / 10000 by omega) (by omega), w64s (show i < 9223372036854775807 by omega)]
  refine hG _ ⟨i + 1, rfl, by simp [hi], by omega, by dsimp only; omega, by dsimp only; omega, a2.app (DG.one (by omega) (by omega)), ?_, fun h => ?_, fun h1 h2 h3 => ?_⟩ (by dsimp only; omega)
  ·dsimp only
   rw [vl_app, vl_one, hi, B_succ, t1, t2]
   have := carry (B i) (c + x + y)
   rw [Int.mul_add, Int.mul_add] at this; omega
  ·have e1 := z1 (by omega); have e2 := z2 (by omega); dsimp only; omega
  ·dsimp only at h3 ⊢
   simp only [List.getLast?_append, List.getLast?_singleton, Option.some_or, ne_eq, Option.some.injEq]
   intro h0
   rcases hc with h | h | h
   ·have := l1 (by omega); omega
   ·have := l2 (by omega); omega
   ·omega
 ·simp only [decide_eq_false hc, Bool.false_eq_true, if_false, outM_eq, Out.fin_out]
  have e0 : c = 0 := by omega
  rw [List.take_of_length_le (by omega), List.take_of_length_le (by omega), e0, Int.mul_zero, Int.add_zero] at a3
  exact Ev.ret ⟨⟨a2, a5 (by omega) (by omega) e0⟩, a3, by omega⟩
theorem clone_eq {K : Nat} {a : List Int} (h0 : a ≠ []) (hl : a.length ≤ 8 * lim) : slices_Clone_r01_Nat_int K a = some a := by
 unfold slices_Clone_r01_Nat_int
 have : a.isEmpty = false := by cases a with | nil => exact absurd rfl h0 | cons => rfl
 rw [this]
 show (appO 8 [] a).bind _ = _
 unfold appO; rw [if_pos (by unfold lim at hl; simp only [List.length_nil]; omega)]; rfl
theorem Sub_ev {a b : List Int} (ha : NM a) (hb : NM b) (hl : a.length ≤ 4 * lim) (h0 : a ≠ []) (hle : vl b ≤ vl a) :
  Ev id (fun K => r01_Sub K a b) fun r => NM r ∧ vl r = vl a - vl b ∧ r.length ≤ a.length := by
 unfold r01_Sub
 refine Ev.bind (P := fun r => r = a) ⟨0, a, rfl, fun i _ => clone_eq h0 (by omega)⟩ fun r1 er1 => ?_
 rw [er1]
 have hbl : b.length ≤ a.length := hb.mono ha.1 hle
 unfold lim at hl
 refine Ev.bind (P := fun r => DG r ∧ r.length = a.length ∧ vl r = vl a - vl b) ?_ fun r hr => Ev.bind (trim_ev hr.1 (by unfold lim; omega)) fun t ht => Ev.ret ⟨ht.1, by omega, by omega⟩
 refine Ev.iter (fun s : Int × Int × List Int => ∃ i : Nat, s.2.1 = i ∧ i ≤ a.length ∧ s.2.2.length = a.length ∧ 0 ≤ s.1 ∧ s.1 ≤ 1 ∧ DG s.2.2 ∧ s.2.2.drop i = a.drop i ∧ vl (s.2.2.take i) = vl (a.take i) - vl (b.take i) + B i * s.1) (fun s => a.length - s.2.1.toNat) ?_ ⟨0, rfl, by omega, rfl, Int.le_refl _, by dsimp only; omega, ha.1, rfl, by simp [vl]⟩
 rintro ⟨c, i', out⟩ ⟨i, rfl, hi, hlen, a0, a1, a2, a3, a4⟩ G hG
 dsimp only at hlen a0 a1 a2 a3 a4 hG ⊢
 by_cases hi' : i < a.length
 ·have hio : i < out.length := by omega
  have hx : out[i] = a[i] := by
   have h1 := List.drop_eq_getElem_cons hio
   rw [a3, List.drop_eq_getElem_cons hi'] at h1
   exact (List.cons.inj h1).1.symm
  have d1 := ha.1.get hi'
  have d2 := hb.1.dg i
  have s2 := dg_step (a := b) (i := i) (z := a[i] - c) (fun x => IntKind.wrap .i64 (a[i] - c - x)) (by rw [Int.sub_zero, w64 (by omega) (by omega)])
  have t1 := vl_take hi'
  have t2 := @vl_take' b i
  simp only [ltT (show (i : Int) < (a.length : Int) by omega), if_true, idx_get hio, hx, Option.bind_some, w64 (show -9223372036854775808 ≤ a[i] - c by omega) (by omega), s2, Int.toNat_natCast, w64s (show i < 9223372036854775807 by omega)]
  generalize dg b i = y at *
  generalize hxe : a[i] = x at *
  simp only [w64 (show -9223372036854775808 ≤ x - c - y by omega) (by omega)]
  have key : ∀ (c' d : Int), 0 ≤ c' → c' ≤ 1 → 0 ≤ d → d < 10000 → d = x - c - y + 10000 * c' → ∃ j : Nat, ((i + 1 : Nat) : Int) = j ∧ j ≤ a.length ∧ (out.set i d).length = a.length ∧ 0 ≤ c' ∧ c' ≤ 1 ∧ DG (out.set i d) ∧ (out.set i d).drop j = a.drop j ∧ vl ((out.set i d).take j) = vl (a.take j) - vl (b.take j) + B j * c' := fun c' d k0 k1 k2 k3 k4 => by
   refine ⟨i + 1, rfl, by omega, by simp [hlen], k0, k1, a2.set k2 k3, ?_, ?_⟩
   ·rw [drop_set]
    have h1 := congrArg (List.drop 1) a3
    rw [List.drop_drop, List.drop_drop] at h1; exact h1
   ·rw [vl_take (by simpa using hio), List.getElem_set_self, List.take_set_of_le (by omega), a4, t1, t2, B_succ, k4]
    rw [Int.mul_add (B i), Int.mul_sub (B i), Int.mul_sub (B i), ← Int.mul_assoc, Int.mul_comm (B i) 10000]
    omega
  by_cases hneg : x - c - y < 0
  ·simp only [ltT hneg, if_true, Option.bind_some, w64 (show -9223372036854775808 ≤ x - c - y + 10000 by omega) (by omega)]
   exact hG _ (key 1 _ (by omega) (by omega) (by omega) (by omega) (by omega)) (by dsimp only; omega)
  ·simp only [ltF (show 0 ≤ x - c - y by omega), Bool.false_eq_true, if_false, Option.bind_some]
   exact hG _ (key 0 _ (by omega) (by omega) (by omega) (by omega) (by omega)) (by dsimp only; omega)
 ·obtain rfl : i = a.length := by omega
  simp only [ltF (Int.le_refl (a.length : Int)), Bool.false_eq_true, if_false]
  rw [List.take_length, List.take_of_length_le hbl, List.take_of_length_le (by omega)] at a4
  have hlt := vl_lt a2
  have hz : c = 0 := by
   rcases Classical.em (c = 0) with h | h
   ·exact h
   ·obtain rfl : c = 1 := by omega
    rw [hlen] at hlt; omega
  subst hz
  exact Ev.ret ⟨a2, hlen, by omega⟩
end Go.Proofs.YtphgabghcedphaaGreatDoor
namespace Go.Proofs.YtphgabghcedphaaGreatDoor
open Go Go.Iso Go.Proofs
set_option linter.unusedSimpArgs false
set_option linter.unusedVariables false
set_option maxRecDepth 100000
theorem mul_lt_B {a b : List Int} (ha : DG a) (hb : DG b) : vl a * vl b < B (a.length + b.length) := by
 have a0 := vl_nn ha; have a1 := vl_lt ha; have b0 := vl_nn hb; have b1 := vl_lt hb
 rw [B_add]
 have h1 : vl a * vl b ≤ vl a * B b.length := Int.mul_le_mul_of_nonneg_left (by omega) a0
 have h2 : (vl a + 1) * B b.length ≤ B a.length * B b.length := Int.mul_le_mul_of_nonneg_right (by omega) (Int.le_of_lt B_pos)
 rw [Int.add_mul, Int.one_mul] at h2
 have := @B_pos b.length
 omega
theorem Mul_ev {a b : List Int} (ha : DG a) (hb : DG b) (hla : a.length ≤ lim) (hlb : b.length ≤ lim) :
  Ev id (fun K => r01_Mul K a b) fun r => NM r ∧ vl r = vl a * vl b ∧ r.length ≤ a.length + b.length + 1 := by
 unfold r01_Mul
 unfold lim at hla hlb
 have e0 : IntKind.wrap .i64 (IntKind.wrap .i64 ((a.length : Int) + (b.length : Int)) + 1) = ((a.length + b.length + 1 : Nat) : Int) := by
  rw [w64 (z := (a.length : Int) + (b.length : Int)) (by omega) (by omega), w64 (by omega) (by omega)]; omega
 refine Ev.op (List.replicate (a.length + b.length + 1) 0) (by rw [e0]; exact mak8 (by unfold lim; omega)) ?_
 refine Ev.bind (P := fun r => DG r ∧ r.length = a.length + b.length + 1 ∧ vl r = vl a * vl b) ?_ fun r hr => Ev.bind (trim_ev hr.1 (by unfold lim; omega)) fun t ht => Ev.ret ⟨ht.1, by omega, by omega⟩
 refine Ev.iter (fun s : Int × List Int => ∃ i : Nat, s.1 = i ∧ i ≤ a.length ∧ s.2.length = a.length + b.length + 1 ∧ DG s.2 ∧ vl s.2 = vl (a.take i) * vl b) (fun s => a.length - s.1.toNat) ?_ ⟨0, rfl, by omega, by simp, DG.zero, by simp [vl_zero, vl]⟩
 rintro ⟨i', out⟩ ⟨i, rfl, hi, a1, a2, a3⟩ G hG
 dsimp only at a1 a2 a3 hG ⊢
 by_cases hi' : i < a.length
 ·have dx := ha.get hi'
  have t1 := vl_take hi'
  simp only [ltT (show (i : Int) < (a.length : Int) by omega), if_true, idx_get hi', Option.bind_some]
  generalize hx : a[i] = x at *
  have tot : vl (a.take (i + 1)) * vl b < B (i + 1 + b.length) := by
   have := mul_lt_B (ha.take (i + 1)) hb
   rw [List.length_take, Nat.min_eq_left (by omega)] at this; exact this
  refine Ev.bind (P := fun s : Int × List Int => 0 ≤ s.1 ∧ s.1 < 10000 ∧ DG s.2 ∧ s.2.length = a.length + b.length + 1 ∧ vl s.2 + B (i + b.length) * s.1 = vl (a.take (i + 1)) * vl b) ?_ ?_
  ·refine Ev.iter (fun s : Int × Int × List Int => ∃ j : Nat, s.2.1 = j ∧ j ≤ b.length ∧ 0 ≤ s.1 ∧ s.1 < 10000 ∧ s.2.2.length = a.length + b.length + 1 ∧ DG s.2.2 ∧ vl s.2.2 + B (i + j) * s.1 = vl (a.take i) * vl b + B i * (x * vl (b.take j))) (fun s => b.length - s.2.1.toNat) ?_ ⟨0, rfl, by omega, Int.le_refl _, by dsimp only; omega, a1, a2, by simp [vl, a3]⟩
   rintro ⟨c, j', o⟩ ⟨j, rfl, hj, b0, b1, b2, b3, b4⟩ G' hG'
   dsimp only at b0 b1 b2 b3 b4 hG' ⊢
   by_cases hj' : j < b.length
   ·have dy := hb.get hj'
    have t2 := vl_take hj'
    have hij : i + j < o.length := by omega
    have dz := b3.get hij
    have ew : IntKind.wrap .i64 ((i : Int) + (j : Int)) = ((i + j : Nat) : Int) := by rw [w64 (by omega) (by omega)]; omega
    simp only [ltT (show (j : Int) < (b.length : Int) by omega), if_true, idx_get hj', Option.bind_some, ew, idx_get hij, ten_must, Int.toNat_natCast, w64s (show j < 9223372036854775807 by omega)]
    generalize hy : b[j] = y at *
    generalize hz : o[i + j] = z at *
    have p0 : 0 ≤ x * y := Int.mul_nonneg dx.1 dy.1
    have p1 : x * y ≤ 9999 * 9999 := Int.le_trans (Int.mul_le_mul_of_nonneg_right (show x ≤ 9999 by omega) dy.1) (Int.mul_le_mul_of_nonneg_left (show y ≤ 9999 by omega) (by omega))
    generalize hp : x * y = p at *
    simp only [w64 (show -9223372036854775808 ≤ p by omega) (by omega), w64 (show -9223372036854775808 ≤ z + p by omega) (by omega), w64 (show -9223372036854775808 ≤ c + (z + p) by omega) (by omega), tmod_nn (show 0 ≤ c + (z + p) by omega), tdiv_nn (show 0 ≤ c + (z + p) by omega), w64 (show -9223372036854775808 ≤ (c + (z + p)) / 10000 by omega) (by omega)]
    refine hG' _ ⟨j + 1, rfl, by omega, by dsimp only; omega, by dsimp only; omega, by simp [b2], b3.set (by omega) (by omega), ?_⟩ (by dsimp only; omega)
    dsimp only
    rw [vl_set hij, hz, show i + (j + 1) = i + j + 1 from rfl, B_succ, t2]
    have h1 := carry (B (i + j)) (c + (z + p))
    have h2 : B i * (x * (vl (List.take j b) + B j * y)) = B i * (x * vl (List.take j b)) + B (i + j) * p := by
     rw [B_add, ← hp, Int.mul_add, Int.mul_add, Int.mul_assoc (B i) (B j), Int.mul_left_comm x (B j) y]
    rw [h2]
    rw [Int.mul_add (B (i + j)) c, Int.mul_add (B (i + j)) z] at h1
    rw [Int.mul_sub]
    omega
   ·obtain rfl : j = b.length := by omega
    simp only [ltF (Int.le_refl (b.length : Int)), Bool.false_eq_true, if_false]
    rw [List.take_length] at b4
    refine Ev.ret ⟨b0, b1, b3, b2, ?_⟩
    dsimp only
    rw [b4, t1, Int.add_mul, Int.mul_assoc]
  ·rintro ⟨c, o⟩ ⟨b0, b1, b3, b2, b4⟩
   dsimp only at b0 b1 b2 b3 b4 ⊢
   have ew : IntKind.wrap .i64 ((i : Int) + (b.length : Int)) = ((i + b.length : Nat) : Int) := by rw [w64 (by omega) (by omega)]; omega
   rw [ew]
   refine Ev.bind (P := fun r => DG r ∧ r.length = a.length + b.length + 1 ∧ vl r = vl (a.take (i + 1)) * vl b) ?_ fun r hr => ?_
   ·refine Ev.iter (fun s : Int × Int × List Int => ∃ k : Nat, s.2.1 = k ∧ 0 ≤ s.1 ∧ s.1 < 10000 ∧ s.2.2.length = a.length + b.length + 1 ∧ DG s.2.2 ∧ vl s.2.2 + B k * s.1 = vl (a.take (i + 1)) * vl b) (fun s => a.length + b.length + 2 - s.2.1.toNat) ?_ ⟨i + b.length, rfl, b0, b1, b2, b3, b4⟩
    rintro ⟨c, k', o⟩ ⟨k, rfl, b0, b1, b2, b3, b4⟩ G' hG'
    dsimp only at b0 b1 b2 b3 b4 hG' ⊢
    by_cases hc : c = 0
    ·subst hc
     simp only [ltF (Int.le_refl 0), Bool.false_eq_true, if_false]
     exact Ev.ret ⟨b3, b2, by omega⟩
    ·have hv := vl_nn b3
     have hB : B k * 1 ≤ B k * c := Int.mul_le_mul_of_nonneg_left (by omega) (Int.le_of_lt B_pos)
     have hk : k < i + 1 + b.length := B_len (a := a) (by omega)
     have hk' : k < o.length := by omega
     have dz := b3.get hk'
     simp only [ltT (show 0 < c by omega), if_true, idx_get hk', Option.bind_some, ten_must, Int.toNat_natCast, w64s (show k < 9223372036854775807 by omega)]
     generalize hz : o[k] = z at *
     simp only [w64 (show -9223372036854775808 ≤ c + z by omega) (by omega), tmod_nn (show 0 ≤ c + z by omega), tdiv_nn (show 0 ≤ c + z by omega), w64 (show -9223372036854775808 ≤ (c + z) / 10000 by omega) (by omega)]
     refine hG' _ ⟨k + 1, rfl, by dsimp only; omega, by dsimp only; omega, by simp [b2], b3.set (by omega) (by omega), ?_⟩ (by dsimp only; omega)
     dsimp only
     rw [vl_set hk', hz, B_succ]
     have h1 := carry (B k) (c + z)
     rw [Int.mul_add] at h1
     rw [Int.mul_sub]
     omega
   ·rw [w64s (by omega)]
    exact hG _ ⟨i + 1, rfl, by omega, hr.2.1, hr.1, hr.2.2⟩ (by dsimp only; omega)
 ·obtain rfl : i = a.length := by omega
  simp only [ltF (Int.le_refl (a.length : Int)), Bool.false_eq_true, if_false]
  rw [List.take_length] at a3
  exact Ev.ret ⟨a2, a1, a3⟩
theorem little_ev {a : List Int} (hd : DG a) : Ev id (fun K => r01_little K a) fun r => (a.length ≤ 4 ∧ r = (vl a, true)) ∨ (4 < a.length ∧ r = (0, false)) := by
 unfold r01_little
 by_cases h4 : 4 < a.length
 ·simp only [ltT (show (4 : Int) < (a.length : Int) by omega), if_true]
  exact Ev.ret (.inr ⟨h4, rfl⟩)
 ·simp only [ltF (show (a.length : Int) ≤ 4 by omega), Bool.false_eq_true, if_false]
  refine Ev.bind (P := fun n => n = vl a) ?_ fun n hn => Ev.ret (.inl ⟨by omega, by rw [hn]⟩)
  refine Ev.iter (fun s : Int × Int => ∃ i : Nat, s.2 = (i : Int) - 1 ∧ i ≤ a.length ∧ s.1 = vl (a.drop i)) (fun s => (s.2 + 1).toNat) ?_ ⟨a.length, by rw [w64 (by omega) (by omega)], Nat.le_refl _, by simp [vl]⟩
  rintro ⟨n, i'⟩ ⟨i, e, hi, a0⟩ G hG
  dsimp only at e a0 hG ⊢
  subst e
  cases i with
  | zero =>
   simp only [leF (show (((0 : Nat) : Int) - 1) < 0 by omega), Bool.false_eq_true, if_false]
   exact Ev.ret (by rw [a0, List.drop_zero])
  | succ i =>
   have hi' : i < a.length := by omega
   have e : (((i + 1 : Nat) : Int) - 1) = (i : Int) := by omega
   have h1 := vl_drop hi'
   have h2 := hd.get hi'
   have h3 := vl_nn (hd.drop (i + 1))
   have h4 := vl_lt (hd.drop (i + 1))
   rw [List.length_drop] at h4
   have h5 := B_le (show a.length - (i + 1) ≤ 3 by omega)
   have h6 : B 3 = 1000000000000 := by decide +kernel
   rw [← a0] at h1 h3 h4
   simp only [e] at hG ⊢
   simp only [leT (show (0 : Int) ≤ (i : Int) by omega), if_true, idx_get hi', Option.bind_some, w64 (show -9223372036854775808 ≤ n * 10000 by omega) (by omega), w64 (show -9223372036854775808 ≤ n * 10000 + a[i] by omega) (by omega), w64 (show -9223372036854775808 ≤ (i : Int) - 1 by omega) (by omega)]
   exact hG _ ⟨i, rfl, by omega, by dsimp only; omega⟩ (by dsimp only; omega)
end Go.Proofs.YtphgabghcedphaaGreatDoor
namespace Go.Proofs.YtphgabghcedphaaGreatDoor
open Go Go.Iso Go.Proofs
set_option linter.unusedSimpArgs false
set_option linter.unusedVariables false
set_option maxRecDepth 100000
theorem int_ne0' {n : Nat} (h : n ≠ 1) : ((n : Int) == 1) = false := by rw [beq_eq_false_iff_ne]; omega
theorem B_four : B 0 = 1 ∧ B 1 = 10000 ∧ B 2 = 100000000 ∧ B 3 = 1000000000000 ∧ B 4 = 10000000000000000 := by decide +kernel
theorem max_low {b : List Int} (h : 2 ≤ b.length) (hl : b.length ≤ 8 * lim) : (if (IntKind.wrap .i64 ((b.length : Int) - 2)) > 0 then (IntKind.wrap .i64 ((b.length : Int) - 2)) else 0) = (b.length : Int) - 2 := by
 unfold lim at hl
 rw [w64 (by omega) (by omega)]; split <;> omega
theorem digit_ev {r b : List Int} (hr : NM r) (hb : NM b) (hlr : r.length ≤ 2 * lim) (hl : b.length ≤ lim) (h2 : 2 ≤ b.length) (hlt : vl r < 10000 * vl b) :
  Ev id (fun K => r01_digit K r b) fun q => 0 ≤ q ∧ q < 10000 ∧ q * vl b ≤ vl r ∧ vl r < (q + 1) * vl b := by
 unfold r01_digit
 simp only [max_low h2 (by omega)]
 unfold lim at hl hlr
 have hbn := vl_nn hb.1
 have hrn := vl_nn hr.1
 refine Ev.bind (P := fun t : Int => 0 ≤ t ∧ t ≤ 1000000000000) ?_ ?_
 ·refine Ev.iter (fun s : Int × Int => ∃ j : Nat, j ≤ 3 ∧ s.2 = (b.length : Int) - j ∧ 0 ≤ s.1 ∧ s.1 < B j) (fun s => (s.2 - (b.length : Int) + 3).toNat) ?_ ⟨0, by omega, by simp, Int.le_refl _, by simp [B_zero]⟩
  rintro ⟨t, i'⟩ ⟨j, hj, e, a0, a1⟩ G hG
  dsimp only at e a0 a1 hG ⊢
  have hB := B_le (show j ≤ 3 by omega)
  have h3 := B_four.2.2.2.1
  by_cases hj3 : j = 3
  ·subst hj3
   simp only [leF (show i' < (b.length : Int) - 2 by omega), Bool.false_eq_true, if_false]
   exact Ev.ret ⟨a0, by omega⟩
  ·have hB2 := B_le (show j ≤ 2 by omega)
   have h2' := B_four.2.2.1
   have hsucc := @B_succ j
   have key : ∀ x : Int, 0 ≤ x → x < 10000 → Ev id (fun i => G i (t * 10000 + x, i' - 1)) fun t => 0 ≤ t ∧ t ≤ 1000000000000 := fun x hx0 hx1 => hG _ ⟨j + 1, by omega, by dsimp only; omega, by dsimp only; omega, by dsimp only; omega⟩ (by dsimp only; omega)
   have w1 : IntKind.wrap .i64 (i' - 1) = i' - 1 := w64 (by omega) (by omega)
   have w2 : IntKind.wrap .i64 (t * 10000) = t * 10000 := w64 (by omega) (by omega)
   simp only [leT (show (b.length : Int) - 2 ≤ i' by omega), if_true]
   by_cases hi : i' < (r.length : Int)
   ·obtain ⟨i, hie⟩ : ∃ i : Nat, i' = i := ⟨i'.toNat, by omega⟩
    have hi2 : i < r.length := by omega
    have hd := hr.1.get hi2
    subst hie
    simp only [ltT hi, if_true, idx_get hi2, Option.bind_some, w2, w64 (show -9223372036854775808 ≤ t * 10000 + r[i] by omega) (by omega), w1]
    exact key _ hd.1 hd.2
   ·simp only [ltF (show (r.length : Int) ≤ i' by omega), Bool.false_eq_true, if_false, Option.bind_some, w2, w1]
    have := key 0 (by omega) (by omega)
    rw [Int.add_zero] at this; exact this
 ·rintro top ⟨p0, p1⟩
  refine Ev.bind (P := fun t : Int => 0 < t ∧ t ≤ 1000000000000) ?_ ?_
  ·refine Ev.iter (fun s : Int × Int => ∃ j : Nat, j ≤ 2 ∧ s.2 = (b.length : Int) - 1 - j ∧ 0 ≤ s.1 ∧ s.1 < B j ∧ (1 ≤ j → 0 < s.1)) (fun s => (s.2 - (b.length : Int) + 3).toNat) ?_ ⟨0, by omega, by dsimp only; rw [w64 (by omega) (by omega)]; omega, Int.le_refl _, by simp [B_zero], by omega⟩
   rintro ⟨t, i'⟩ ⟨j, hj, e, a0, a1, a2⟩ G hG
   dsimp only at e a0 a1 a2 hG ⊢
   have hB := B_le (show j ≤ 3 by omega)
   have h3 := B_four.2.2.2.1
   by_cases hj3 : j = 2
   ·subst hj3
    simp only [leF (show i' < (b.length : Int) - 2 by omega), Bool.false_eq_true, if_false]
    exact Ev.ret ⟨a2 (by omega), by omega⟩
   ·have hsucc := @B_succ j
    obtain ⟨i, hie⟩ : ∃ i : Nat, i' = i := ⟨i'.toNat, by omega⟩
    have hi2 : i < b.length := by omega
    have hd := hb.1.get hi2
    have hlast : j = 0 → b[i] ≠ 0 := fun h => by
     have := last_ne hb (show i + 1 = b.length by omega)
     unfold dg at this; rw [List.getElem?_eq_getElem hi2] at this; exact this
    subst hie
    simp only [leT (show (b.length : Int) - 2 ≤ (i : Int) by omega), if_true, idx_get hi2, Option.bind_some, w64 (show -9223372036854775808 ≤ t * 10000 by omega) (by omega), w64 (show -9223372036854775808 ≤ t * 10000 + b[i] by omega) (by omega), w64 (show -9223372036854775808 ≤ (i : Int) - 1 by omega) (by omega)]
    refine hG _ ⟨j + 1, by omega, by dsimp only; omega, by dsimp only; omega, by dsimp only; omega, fun _ => ?_⟩ (by dsimp only; omega)
    dsimp only
    by_cases hj0 : j = 0
    ·have := hlast hj0; omega
    ·have := a2 (by omega); omega
  ·rintro low ⟨l0, l1⟩
   simp only [int_ne0' (show b.length ≠ 1 by omega), Bool.false_eq_true, if_false, Option.bind_some, show must (low != 0) = some () by unfold must; rw [if_pos (by simpa using (by omega : low ≠ 0))]]
   have hq0 : 0 ≤ top / low := Int.ediv_nonneg p0 (by omega)
   have hq1 : top / low ≤ top := Int.ediv_le_self _ p0
   simp only [tdiv_nn p0, w64 (show -9223372036854775808 ≤ top / low by omega) (by omega)]
   have hb2 : b.length ≤ 4 * lim := by unfold lim; omega
   have cmpS : ∀ (q : Int), 0 ≤ q → q ≤ 9999 → Ev id (fun K => (r01_Small K b q 0).bind fun x => r01_Cmp K x r) fun c => (c = -1 ∧ vl b * q < vl r) ∨ (c = 0 ∧ vl b * q = vl r) ∨ (c = 1 ∧ vl r < vl b * q) := fun q q0 q1 => by
    refine Ev.bind (Small_ev hb.1 hb2 q0 (by omega) (by omega) (by omega)) fun x hx => ?_
    have := Cmp_ev hx.1 hr (by unfold lim; omega)
    rw [hx.2.1, Int.add_zero] at this; exact this
   have asc : ∀ {β : Type} (q : Int) (g : Nat → Int → Option β), (fun K => (r01_Small K b q 0).bind fun x => (r01_Cmp K x r).bind fun c => g K c) = fun K => ((r01_Small K b q 0).bind fun x => r01_Cmp K x r).bind (g K) := fun q g => by
    funext K; rw [Option.bind_assoc]
   refine Ev.bind (P := fun q : Int => 0 ≤ q ∧ q ≤ 9999 ∧ vl b * q ≤ vl r) ?_ ?_
   ·refine Ev.iter (fun q : Int => 0 ≤ q ∧ q ≤ 9999) (fun q => q.toNat) ?_ (by split <;> omega)
    rintro q ⟨q0, q1⟩ G hG
    rw [asc]
    refine Ev.bind (cmpS q q0 q1) ?_
    rintro c (⟨rfl, h⟩ | ⟨rfl, h⟩ | ⟨rfl, h⟩)
    ·exact Ev.ret ⟨q0, q1, by omega⟩
    ·exact Ev.ret ⟨q0, q1, by omega⟩
    ·have hqp : q ≠ 0 := fun e => by subst e; omega
     simp only [w64 (show -9223372036854775808 ≤ q - 1 by omega) (by omega)]
     exact hG _ ⟨by omega, by omega⟩ (by omega)
   ·rintro q ⟨q0, q1, q2⟩
    refine Ev.bind (P := fun q => 0 ≤ q ∧ q < 10000 ∧ q * vl b ≤ vl r ∧ vl r < (q + 1) * vl b) ?_ fun q hq => Ev.ret hq
    refine Ev.iter (fun q : Int => 0 ≤ q ∧ q ≤ 9999 ∧ vl b * q ≤ vl r) (fun q => (10000 - q).toNat) ?_ ⟨q0, q1, q2⟩
    rintro q ⟨q0, q1, q2⟩ G hG
    have ec := Int.mul_comm q (vl b)
    have ec2 : (q + 1) * vl b = vl b * q + vl b := by rw [Int.add_mul, Int.one_mul, ec]
    have ec3 : vl b * (q + 1) = vl b * q + vl b := by rw [Int.mul_add, Int.mul_one]
    simp only [w64 (show -9223372036854775808 ≤ q + 1 by omega) (by omega)]
    by_cases h9 : q + 1 < 10000
    ·simp only [ltT h9, if_true]
     have hc := cmpS (q + 1) (by omega) (by omega)
     obtain ⟨k, c, hP, hc⟩ := hc
     have hc' : ∀ i, k ≤ id i → ((r01_Small i b (q + 1) 0).bind fun x => (r01_Cmp i x r).bind fun c => some (decide (c ≤ 0))) = some (decide (c ≤ 0)) := fun i hi => by
      have := congrArg (fun o => Option.bind o fun c => some (decide (c ≤ 0))) (hc i hi)
      simpa only [Option.bind_assoc, Option.bind_some] using this
     rcases hP with ⟨rfl, h⟩ | ⟨rfl, h⟩ | ⟨rfl, h⟩
     ·refine Ev.congr k (fun i hi => by rw [hc' i hi]) ?_
      simp only [show decide ((-1 : Int) ≤ 0) = true from rfl, show decide ((0 : Int) ≤ 0) = true from rfl, if_true, Option.bind_some, Out.fin_go]
      exact hG _ ⟨by omega, by omega, by omega⟩ (by omega)
     ·refine Ev.congr k (fun i hi => by rw [hc' i hi]) ?_
      simp only [show decide ((-1 : Int) ≤ 0) = true from rfl, show decide ((0 : Int) ≤ 0) = true from rfl, if_true, Option.bind_some, Out.fin_go]
      exact hG _ ⟨by omega, by omega, by omega⟩ (by omega)
     ·refine Ev.congr k (fun i hi => by rw [hc' i hi]) ?_
      simp only [show decide ((1 : Int) ≤ 0) = false from rfl, Bool.false_eq_true, if_false, Option.bind_some, outM_eq, Out.fin_out]
      exact Ev.ret ⟨q0, by omega, by omega, by omega⟩
    ·simp only [ltF (show 10000 ≤ q + 1 by omega), Bool.false_eq_true, if_false, Option.bind_some, outM_eq, Out.fin_out]
     obtain rfl : q = 9999 := by omega
     exact Ev.ret ⟨q0, by omega, by omega, by omega⟩
theorem DivMod_ev {a b : List Int} (ha : NM a) (hb : NM b) (hla : a.length ≤ lim) (hlb : b.length ≤ lim) (h0 : 0 < vl b) :
  Ev id (fun K => r01_DivMod K a b) fun r => NM r.1 ∧ NM r.2 ∧ vl a = vl r.1 * vl b + vl r.2 ∧ vl r.2 < vl b ∧ r.1.length ≤ a.length ∧ r.2.length ≤ b.length := by
 have fin : ∀ r : List Int × List Int, NM r.1 → NM r.2 → vl a = vl r.1 * vl b + vl r.2 → vl r.2 < vl b → NM r.1 ∧ NM r.2 ∧ vl a = vl r.1 * vl b + vl r.2 ∧ vl r.2 < vl b ∧ r.1.length ≤ a.length ∧ r.2.length ≤ b.length := fun r n1 n2 e l => by
  have v2 := vl_nn n2.1
  have v1 := vl_nn n1.1
  have : vl r.1 * 1 ≤ vl r.1 * vl b := Int.mul_le_mul_of_nonneg_left (by omega) v1
  have l1 := n1.mono ha.1 (by omega)
  have l2 := n2.mono hb.1 (by omega)
  exact ⟨n1, n2, e, l, by omega, by omega⟩
 have hva := vl_nn ha.1
 unfold r01_DivMod
 refine Ev.bind (Cmp_ev ha hb (by omega)) fun c hc => ?_
 by_cases hlt : vl a < vl b
 ·obtain rfl : c = -1 := by omega
  exact Ev.ret (fin _ NM.nil ha (by simp [vl]) hlt)
 ·simp only [ltF (show 0 ≤ c by omega), Bool.false_eq_true, if_false]
  have hlen : b.length ≤ a.length := hb.mono ha.1 (by omega)
  have hbne : b ≠ [] := fun e => by subst e; simp [vl] at h0
  have hbp : 0 < b.length := by cases b with | nil => exact absurd rfl hbne | cons => simp
  refine Ev.bind (little_ev ha.1) fun x hx => ?_
  rcases hx with ⟨hl4, rfl⟩ | ⟨hl4, rfl⟩
  ·simp only [if_true]
   refine Ev.bind (little_ev hb.1) fun y hy => ?_
   obtain rfl : y = (vl b, true) := by
    rcases hy with ⟨_, h⟩ | ⟨h, _⟩
    ·exact h
    ·omega
   have hv4 := vl_lt ha.1
   have hB := B_le hl4
   have h4 := B_four.2.2.2.2
   have q0 : 0 ≤ vl a / vl b := Int.ediv_nonneg hva (by omega)
   have q1 : vl a / vl b ≤ vl a := Int.ediv_le_self _ hva
   have m0 : 0 ≤ vl a % vl b := Int.emod_nonneg _ (by omega)
   have m1 : vl a % vl b < vl b := Int.emod_lt_of_pos _ h0
   have em := Int.emod_add_mul_ediv (vl a) (vl b)
   simp only [show must (vl b != 0) = some () by unfold must; rw [if_pos (by simpa using (by omega : vl b ≠ 0))], Option.bind_some, tdiv_nn hva, tmod_nn hva, w64 (show -9223372036854775808 ≤ vl a / vl b by omega) (by omega)]
   refine Ev.bind (Int_ev q0 (by omega)) fun u hu => Ev.bind (Int_ev m0 (by omega)) fun v hv => Ev.ret (fin _ hu.1 hv.1 ?_ ?_)
   ·dsimp only; rw [hu.2, hv.2, Int.mul_comm]; omega
   ·dsimp only; rw [hv.2]; exact m1
  ·simp only [Bool.false_eq_true, if_false]
   by_cases h1 : b.length = 1
   ·obtain ⟨d, rfl⟩ : ∃ d, b = [d] := List.length_eq_one_iff.1 h1
    have hd := hb.1 d (List.mem_singleton.2 rfl)
    rw [vl_one] at h0 hlt
    simp only [List.length_singleton, Int.natCast_one, beq_self_eq_true, if_true, show idx [d] (0 : Int) = some d from rfl, Option.bind_some]
    refine Ev.bind (Split_ev ha.1 (by omega) h0 (by omega)) fun q hq => ?_
    refine Ev.bind (Int_ev hq.2.2.1 (by omega)) fun v hv => Ev.ret (fin _ hq.1 hv.1 ?_ ?_)
    ·dsimp only; rw [hv.2, vl_one]; exact hq.2.1
    ·dsimp only; rw [hv.2, vl_one]; exact hq.2.2.2.1
   ·simp only [int_ne0' h1, Bool.false_eq_true, if_false]
    refine Ev.op _ (mak8 (by omega)) ?_
    refine Ev.bind (P := fun s : List Int × List Int => NM s.1 ∧ vl s.1 < vl b ∧ s.2.length = a.length ∧ DG s.2 ∧ vl a = vl s.2 * vl b + vl s.1) ?_ ?_
    ·unfold lim at hla hlb
     refine Ev.iter (fun s : List Int × Int × List Int => ∃ i : Nat, s.2.1 = (i : Int) - 1 ∧ i ≤ a.length ∧ NM s.1 ∧ vl s.1 < vl b ∧ s.2.2.length = a.length ∧ DG s.2.2 ∧ (∀ j (hj : j < s.2.2.length), j < i → s.2.2[j] = 0) ∧ vl (a.drop i) = vl (s.2.2.drop i) * vl b + vl s.1) (fun s => (s.2.1 + 1).toNat) ?_ ⟨a.length, by rw [w64 (by omega) (by omega)], Nat.le_refl _, NM.nil, h0, by simp, DG.zero, fun j hj _ => by simp, by simp [vl]⟩
     rintro ⟨r, i', q⟩ ⟨i, e, hi, a0, a1, a2, a3, a4, a5⟩ G hG
     dsimp only at e a0 a1 a2 a3 a4 a5 hG ⊢
     subst e
     cases i with
     | zero =>
      simp only [leF (show (((0 : Nat) : Int) - 1) < 0 by omega), Bool.false_eq_true, if_false]
      rw [List.drop_zero, List.drop_zero] at a5
      exact Ev.ret ⟨a0, a1, a2, a3, a5⟩
     | succ i =>
      have hi' : i < a.length := by omega
      have hiq : i < q.length := by omega
      have hda := ha.1.get hi'
      have hrl : r.length ≤ b.length := a0.mono hb.1 (by omega)
      have e : (((i + 1 : Nat) : Int) - 1) = (i : Int) := by omega
      have hz := a4 i hiq (by omega)
      have t1 := vl_drop hi'
      have t2 := vl_drop hiq
      rw [hz, Int.zero_add] at t2
      have hrn := vl_nn a0.1
      simp only [e] at hG ⊢
      have w1 : IntKind.wrap .i64 ((i : Int) - 1) = (i : Int) - 1 := w64 (by omega) (by omega)
      simp only [leT (show (0 : Int) ≤ (i : Int) by omega), if_true, idx_get hi', idx_get hiq, Option.bind_some, w1]
      refine Ev.bind (P := fun s : List Int × List Int => NM s.1 ∧ vl s.1 < vl b ∧ s.2.length = a.length ∧ DG s.2 ∧ (∀ j (hj : j < s.2.length), j < i → s.2[j] = 0) ∧ vl (a.drop i) = vl (s.2.drop i) * vl b + vl s.1) ?_ fun s hs => hG _ ⟨i, rfl, by omega, hs⟩ (by dsimp only; omega)
      refine Ev.bind (Small_ev a0.1 (by unfold lim; omega) (by omega) (by omega) hda.1 (by omega)) fun r1 hr1 => ?_
      refine Ev.bind (Cmp_ev hr1.1 hb (by unfold lim; omega)) fun c hc => ?_
      by_cases hlt : vl r1 < vl b
      ·obtain rfl : c = -1 := by omega
       refine Ev.ret ⟨hr1.1, hlt, a2, a3, fun j hj hji => a4 j hj (by omega), ?_⟩
       dsimp only
       rw [t1, t2, a5, hr1.2.1, Int.mul_add, ← Int.mul_assoc]; omega
      ·simp only [ltF (show 0 ≤ c by omega), Bool.false_eq_true, if_false]
       refine Ev.bind (digit_ev hr1.1 hb (by unfold lim; omega) (by unfold lim; omega) (by omega) (by omega)) fun d hd => ?_
       obtain ⟨d0, d1, d2, d3⟩ := hd
       simp only [Int.toNat_natCast, idx_get (show i < (q.set i d).length by simpa using hiq), List.getElem_set_self, Option.bind_some]
       refine Ev.bind (Small_ev hb.1 (by unfold lim; omega) d0 (by omega) (by omega) (by omega)) fun m hm => ?_
       have ec := Int.mul_comm d (vl b)
       have ec2 : (d + 1) * vl b = d * vl b + vl b := by rw [Int.add_mul, Int.one_mul]
       refine Ev.bind (Sub_ev hr1.1 hm.1 (by unfold lim; omega) (fun e => by rw [e] at hlt; simp only [vl] at hlt; omega) (by rw [hm.2.1]; omega)) fun r2 hr2 => ?_
       refine Ev.ret ⟨hr2.1, by dsimp only; omega, by simp [a2], a3.set d0 d1, fun j hj hji => ?_, ?_⟩
       ·dsimp only at hj ⊢
        rw [List.getElem_set_ne (by omega)]
        exact a4 j (by simpa using hj) (by omega)
       ·dsimp only
        rw [vl_drop_set hiq, t1, a5, hr2.2.1, hm.2.1, hr1.2.1, Int.add_mul, Int.mul_assoc 10000]; omega
    ·rintro ⟨r, q⟩ ⟨a0, a1, a2, a3, a5⟩
     dsimp only at a0 a1 a2 a3 a5 ⊢
     refine Ev.bind (trim_ev a3 (by omega)) fun t ht => Ev.ret (fin _ ht.1 a0 ?_ a1)
     dsimp only; rw [ht.2.1]; exact a5
end Go.Proofs.YtphgabghcedphaaGreatDoor
namespace Go.Proofs.YtphgabghcedphaaGreatDoor
open Go Go.Iso Go.Proofs
set_option linter.unusedSimpArgs false
set_option linter.unusedVariables false
set_option maxRecDepth 100000
def Euc (N D x y : Int) : Prop := 0 ≤ x ∧ 0 ≤ y ∧ ((x = N ∧ y = D) ∨ (0 < x ∧ x ≤ D ∧ y ≤ N ∧ y ≤ D ∧ (y = 0 → x ≤ N)))
theorem Euc.step {N D x y r : Int} (hN : 0 < N) (hD : 0 < D) (h : Euc N D x y) (h0 : 0 < y) (q : Int) (hq : x = q * y + r) (hr0 : 0 ≤ r) (hr : r < y) : Euc N D y r := by
 obtain ⟨a, b, h⟩ := h
 have hqn : 0 ≤ q := by
  rcases Int.lt_or_le q 0 with h | h
  ·have : q * y ≤ (-1) * y := Int.mul_le_mul_of_nonneg_right (by omega) b
   omega
  ·exact h
 have hqy : 0 ≤ q * y := Int.mul_nonneg hqn b
 rcases h with ⟨rfl, rfl⟩ | ⟨h1, h2, h3, h4, h5⟩
 ·refine ⟨b, hr0, .inr ⟨h0, Int.le_refl _, by omega, by omega, fun e => ?_⟩⟩
  have : q ≠ 0 := fun e' => by subst e'; omega
  have : 1 * y ≤ q * y := Int.mul_le_mul_of_nonneg_right (by omega) b
  omega
 ·exact ⟨b, hr0, .inr ⟨h0, h4, by omega, by omega, fun _ => h3⟩⟩
theorem Euc.fin {N D x : Int} (hD : 0 < D) (h : Euc N D x 0) : 0 < x ∧ x ≤ D ∧ x ≤ N := by
 obtain ⟨a, b, ⟨_, h⟩ | ⟨h1, h2, _, _, h5⟩⟩ := h
 ·omega
 ·exact ⟨h1, h2, h5 rfl⟩
theorem GCD_ev {a b : List Int} (ha : NM a) (hb : NM b) (hla : a.length ≤ lim) (hlb : b.length ≤ lim) (a0 : 0 < vl a) (b0 : 0 < vl b) :
  Ev id (fun K => r01_GCD K a b) fun r => NM r ∧ 0 < vl r ∧ vl r ≤ vl b ∧ vl r ≤ vl a ∧ r.length ≤ lim := by
 unfold r01_GCD
 have fin : ∀ r, NM r → 0 < vl r → vl r ≤ vl b → vl r ≤ vl a → NM r ∧ 0 < vl r ∧ vl r ≤ vl b ∧ vl r ≤ vl a ∧ r.length ≤ lim := fun r h1 h2 h3 h4 => ⟨h1, h2, h3, h4, by have := h1.mono hb.1 h3; omega⟩
 refine Ev.bind (P := fun o => ∃ r, (o = .go r ∨ o = .out r) ∧ NM r ∧ 0 < vl r ∧ vl r ≤ vl b ∧ vl r ≤ vl a ∧ r.length ≤ lim) ?_ ?_
 ·refine Ev.iter (fun s : List Int × List Int => NM s.1 ∧ NM s.2 ∧ s.1.length ≤ lim ∧ s.2.length ≤ lim ∧ Euc (vl a) (vl b) (vl s.1) (vl s.2)) (fun s => (vl s.2).toNat) ?_ ⟨ha, hb, hla, hlb, by dsimp only; omega, by dsimp only; omega, .inl ⟨rfl, rfl⟩⟩
  rintro ⟨x, y⟩ ⟨n1, n2, l1, l2, he⟩ G hG
  dsimp only at n1 n2 l1 l2 he hG ⊢
  by_cases hy : y = []
  ·subst hy
   simp only [List.length_nil, ltF (show ((0 : Nat) : Int) ≤ 0 by omega), Bool.false_eq_true, if_false]
   have := he.fin b0
   exact Ev.ret ⟨x, .inl rfl, fin _ n1 this.1 this.2.1 this.2.2⟩
  ·have yp : 0 < vl y := n2.pos hy
   have hp : 0 < y.length := by cases y with | nil => exact absurd rfl hy | cons => simp
   simp only [ltT (show (0 : Int) < (y.length : Int) by omega), if_true]
   have rest : Ev id (fun i => (r01_DivMod i x y).bind fun r25 => G i (y, r25.2)) (fun o => ∃ r, (o = .go r ∨ o = .out r) ∧ NM r ∧ 0 < vl r ∧ vl r ≤ vl b ∧ vl r ≤ vl a ∧ r.length ≤ lim) := by
    refine Ev.bind (DivMod_ev n1 n2 l1 l2 yp) fun q hq => ?_
    obtain ⟨q1, q2, q3, q4, q5, q6⟩ := hq
    have := vl_nn q2.1
    exact hG _ ⟨n2, q2, l2, by dsimp only; omega, he.step a0 b0 yp _ q3 this q4⟩ (by dsimp only; omega)
   refine Ev.bind (little_ev n1.1) fun u hu => ?_
   refine Ev.bind (little_ev n2.1) fun v hv => ?_
   rcases hu with ⟨u4, rfl⟩ | ⟨u4, rfl⟩
   ·simp only [if_true]
    rcases hv with ⟨v4, rfl⟩ | ⟨v4, rfl⟩
    ·simp only [if_true, Option.bind_some]
     refine Ev.bind (P := fun o => ∃ r, o = .out (.out r) ∧ NM r ∧ 0 < vl r ∧ vl r ≤ vl b ∧ vl r ≤ vl a ∧ r.length ≤ lim) ?_ ?_
     ·have ub := vl_lt n1.1; have uB := B_le u4; have uu := vl_nn n1.1
      have vb := vl_lt n2.1; have vB := B_le v4
      have h4 := B_four.2.2.2.2
      refine Ev.bind (P := fun z : Int => 0 < z ∧ z ≤ vl b ∧ z ≤ vl a ∧ z ≤ B 4) ?_ fun z hz => ?_
      ·refine Ev.iter (fun s : Int × Int => Euc (vl a) (vl b) s.1 s.2 ∧ s.1 ≤ B 4 ∧ s.2 ≤ B 4) (fun s => s.2.toNat) ?_ ⟨he, by dsimp only; omega, by dsimp only; omega⟩
       rintro ⟨x', y'⟩ ⟨e, b1, b2⟩ G' hG'
       dsimp only at e b1 b2 hG' ⊢
       by_cases h0 : y' = 0
       ·subst h0
        simp only [ltF (Int.le_refl 0), Bool.false_eq_true, if_false]
        have := e.fin b0
        exact Ev.ret ⟨this.1, this.2.1, this.2.2, b1⟩
       ·have e0 := e.1; have e1 := e.2.1
        have m0 : 0 ≤ x' % y' := Int.emod_nonneg _ h0
        have m1 : x' % y' < y' := Int.emod_lt_of_pos _ (by omega)
        have em := Int.emod_add_mul_ediv x' y'
        simp only [ltT (show 0 < y' by omega), if_true, show must (y' != 0) = some () by unfold must; rw [if_pos (by simpa using h0)], Option.bind_some, tmod_nn e0]
        exact hG' _ ⟨e.step a0 b0 (by omega) (x' / y') (by rw [Int.mul_comm (x' / y') y', Int.add_comm]; exact em.symm) m0 m1, b2, by dsimp only; omega⟩ (by dsimp only; omega)
      ·refine Ev.bind (Int_ev (by omega) (by omega)) fun r hr => Ev.ret ⟨r, rfl, fin _ hr.1 (by omega) (by omega) (by omega)⟩
     ·rintro o ⟨r, rfl, hr⟩
      exact Ev.ret ⟨r, .inr rfl, hr⟩
    ·simp only [Bool.false_eq_true, if_false, Option.bind_some, Out.fin_go]
     exact rest
   ·simp only [Bool.false_eq_true, if_false, Option.bind_some, Out.fin_go]
    exact rest
 ·rintro o ⟨r, rfl | rfl, hr⟩
  ·exact Ev.ret hr
  ·exact Ev.ret hr
/-! ### Fractions -/
def Fr (m : Nat) (r : Isochroneref02_RatA) : Prop := NM r.n ∧ NM r.d ∧ 0 < vl r.d ∧ (r.n = [] → r.neg = false) ∧ r.n.length ≤ m ∧ r.d.length ≤ m
theorem Fr.mono {m m' : Nat} {r : Isochroneref02_RatA} (h : Fr m r) (hm : m ≤ m') : Fr m' r := ⟨h.1, h.2.1, h.2.2.1, h.2.2.2.1, by have := h.2.2.2.2.1; omega, by have := h.2.2.2.2.2; omega⟩
theorem one_nm : NM [1] ∧ vl [1] = 1 := ⟨⟨DG.one (by omega) (by omega), by simp⟩, by simp [vl]⟩
theorem Fr.zero {m : Nat} (h : 1 ≤ m) : Fr m ⟨false, [], [1]⟩ := ⟨NM.nil, one_nm.1, by rw [one_nm.2]; omega, fun _ => rfl, Nat.zero_le _, by simpa using h⟩
theorem Fr.one {m : Nat} (h : 1 ≤ m) : Fr m ⟨false, [1], [1]⟩ := ⟨one_nm.1, one_nm.1, by rw [one_nm.2]; omega, fun _ => rfl, by simpa using h, by simpa using h⟩
theorem Make_ev {M : Nat} {neg : Bool} {n d : List Int} (hn : NM n) (hd : NM d) (h0 : 0 < vl d) (hln : n.length ≤ M) (hld : d.length ≤ M) (hM : M ≤ lim) (h1 : 1 ≤ M) :
  Ev id (fun K => r02_Make K neg n d) (Fr M) := by
 unfold r02_Make
 by_cases e : n = []
 ·subst e
  simp only [List.length_nil, int_eq0 rfl, if_true]
  exact Ev.op _ rfl (Ev.ret (Fr.zero h1))
 ·have hp : n.length ≠ 0 := fun h => e (List.length_eq_zero_iff.1 h)
  have np := hn.pos e
  simp only [int_ne0 hp, Bool.false_eq_true, if_false]
  have same : Fr M ⟨neg, n, d⟩ := ⟨hn, hd, h0, fun h => absurd h e, hln, hld⟩
  have t1 : ∀ l : List Int, l ≠ [] → ∃ b : Bool, (if ((l.length : Int) == 1) = true then (idx l 0).bind fun x => some (x == 1) else some false) = some b := fun l hl => by
   cases l with
   | nil => exact absurd rfl hl
   | cons x l => split
                 ·exact ⟨x == 1, rfl⟩
                 ·exact ⟨false, rfl⟩
  have dne : d ≠ [] := fun h => by subst h; simp [vl] at h0
  obtain ⟨b1, hb1⟩ := t1 d dne
  simp only [hb1, Option.bind_some]
  cases b1 with
  | true => exact Ev.ret same
  | false =>
   simp only [Bool.false_eq_true, if_false, Option.bind_some, Out.fin_go]
   refine Ev.bind (GCD_ev hn hd (by omega) (by omega) np h0) fun g hg => ?_
   obtain ⟨g1, g2, g3, g4, g5⟩ := hg
   have gne : g ≠ [] := fun h => by subst h; simp [vl] at g2
   obtain ⟨b2, hb2⟩ := t1 g gne
   simp only [hb2, Option.bind_some]
   cases b2 with
   | true => exact Ev.ret same
   | false =>
    simp only [Bool.false_eq_true, if_false, Option.bind_some, Out.fin_go]
    refine Ev.bind (DivMod_ev hn g1 (by omega) g5 g2) fun x hx => Ev.bind (DivMod_ev hd g1 (by omega) g5 g2) fun y hy => Ev.ret ?_
    have nz : ∀ (u v w z : Int), 0 ≤ v → u = v * w + z → z < w → w ≤ u → 0 < v := fun u v w z p1 p2 p3 p4 => by
     rcases Int.lt_or_le 0 v with h | h
     ·exact h
     ·obtain rfl : v = 0 := by omega
      omega
    have hx0 := nz _ _ _ _ (vl_nn hx.1.1) hx.2.2.1 hx.2.2.2.1 g4
    have hy0 := nz _ _ _ _ (vl_nn hy.1.1) hy.2.2.1 hy.2.2.2.1 g3
    exact ⟨hx.1, hy.1, hy0, fun h => by dsimp only at h; rw [h] at hx0; simp [vl] at hx0, by have := hx.2.2.2.2.1; dsimp only; omega, by have := hy.2.2.2.2.1; dsimp only; omega⟩
theorem mul_pos' {a b : Int} (h1 : 0 < a) (h2 : 0 < b) : 0 < a * b := Int.mul_pos h1 h2
theorem RMul_ev {m : Nat} {a b : Isochroneref02_RatA} (ha : Fr m a) (hb : Fr m b) (hm : 2 * m + 1 ≤ lim) : Ev id (fun K => r02_Mul K a b) (Fr (2 * m + 1)) := by
 obtain ⟨a1, a2, a3, a4, a5, a6⟩ := ha
 obtain ⟨b1, b2, b3, b4, b5, b6⟩ := hb
 unfold r02_Mul
 refine Ev.bind (Mul_ev a1.1 b1.1 (by omega) (by omega)) fun n hn => Ev.bind (Mul_ev a2.1 b2.1 (by omega) (by omega)) fun d hd => ?_
 exact Ev.bind (Make_ev hn.1 hd.1 (by rw [hd.2.1]; exact mul_pos' a3 b3) (by omega) (by omega) (by omega) (by omega)) fun r hr => Ev.ret hr
theorem RAdd_ev {m : Nat} {a b : Isochroneref02_RatA} (ha : Fr m a) (hb : Fr m b) (hm : 5 * m + 5 ≤ lim) : Ev id (fun K => r02_Add K a b) (Fr (5 * m + 5)) := by
 obtain ⟨a1, a2, a3, a4, a5, a6⟩ := ha
 obtain ⟨b1, b2, b3, b4, b5, b6⟩ := hb
 unfold r02_Add
 refine Ev.bind (Mul_ev a1.1 b2.1 (by omega) (by omega)) fun x hx => Ev.bind (Mul_ev b1.1 a2.1 (by omega) (by omega)) fun y hy => Ev.bind (Mul_ev a2.1 b2.1 (by omega) (by omega)) fun d hd => ?_
 have hd0 : 0 < vl d := by rw [hd.2.1]; exact mul_pos' a3 b3
 by_cases hs : a.neg = b.neg
 ·simp only [beq_iff_eq.2 hs, if_true]
  refine Ev.bind (Add_ev hx.1 hy.1 (by omega) (by omega)) fun z hz => Ev.bind (Make_ev hz.1 hd.1 hd0 (by omega) (by omega) (by omega) (by omega)) fun r hr => Ev.ret hr
 ·simp only [beq_eq_false_iff_ne.2 hs, Bool.false_eq_true, if_false]
  refine Ev.bind (Cmp_ev hx.1 hy.1 (by omega)) fun c hc => ?_
  have hxn := vl_nn hx.1.1
  have hyn := vl_nn hy.1.1
  by_cases hle : vl y ≤ vl x
  ·simp only [leT (show 0 ≤ c by omega), if_true]
   have xne : x ≠ [] := fun e => by
    have v0 : vl x = 0 := by rw [e]; rfl
    have w0 : vl y = 0 := by omega
    have an : a.n = [] := a1.nil_iff.2 (by
     rcases Classical.em (vl a.n = 0) with h | h
     ·exact h
     ·have := vl_nn a1.1; have := mul_pos' (show 0 < vl a.n by omega) b3; omega)
    have bn : b.n = [] := b1.nil_iff.2 (by
     rcases Classical.em (vl b.n = 0) with h | h
     ·exact h
     ·have := vl_nn b1.1; have := mul_pos' (show 0 < vl b.n by omega) a3; omega)
    exact hs (by rw [a4 an, b4 bn])
   refine Ev.bind (Sub_ev hx.1 hy.1 (by omega) xne hle) fun z hz => Ev.bind (Make_ev hz.1 hd.1 hd0 (by omega) (by omega) (by omega) (by omega)) fun r hr => Ev.ret hr
  ·obtain rfl : c = -1 := by omega
   have yne : y ≠ [] := fun e => by rw [e] at hle; simp only [vl] at hle; omega
   refine Ev.bind (Sub_ev hy.1 hx.1 (by omega) yne (by omega)) fun z hz => Ev.bind (Make_ev hz.1 hd.1 hd0 (by omega) (by omega) (by omega) (by omega)) fun r hr => Ev.ret hr
theorem RCmp_ev {m : Nat} {a b : Isochroneref02_RatA} (ha : Fr m a) (hb : Fr m b) (hm : 5 * m + 5 ≤ lim) : Ev id (fun K => r02_Cmp K a b) fun _ => True := by
 unfold r02_Cmp
 refine Ev.bind (P := fun _ => True) ?_ fun r _ => ?_
 ·unfold r02_Sub
  refine Ev.bind (P := Fr m) ?_ fun c hc => Ev.bind (RAdd_ev ha hc hm) fun r _ => Ev.ret trivial
  unfold r02_Neg
  by_cases e : b.n.length = 0
  ·simp only [int_eq0 e, if_true]; exact Ev.ret hb
  ·simp only [int_ne0 e, Bool.false_eq_true, if_false]
   exact Ev.ret ⟨hb.1, hb.2.1, hb.2.2.1, fun h => by dsimp only at h; rw [h] at e; exact absurd rfl e, hb.2.2.2.2.1, hb.2.2.2.2.2⟩
 ·unfold r02_Sign
  refine Ev.bind (P := fun _ => True) ?_ fun _ _ => Ev.ret trivial
  split
  ·exact Ev.ret trivial
  ·split
   ·exact Ev.ret trivial
   ·exact Ev.ret trivial
theorem To_ev {m : Nat} {a : Isochroneref02_RatA} (ha : Fr m a) (hm : m ≤ lim) : Ev id (fun K => r02_To K a) fun r => a.n.length ≤ 4 * r.num.length ∧ a.d.length ≤ 4 * r.den.length := by
 unfold r02_To
 refine Ev.bind (Words_ev ha.1 (by have := ha.2.2.2.2.1; omega)) fun x hx => Ev.bind (Words_ev ha.2.1 (by have := ha.2.2.2.2.2; omega)) fun y hy => Ev.ret ⟨hx, hy⟩
/-! ### Duals -/
def Du (r : Isochroneref11_dualA) : Prop := Fr 20000 r.v ∧ Fr 20000 r.d ∧ r.most ≤ 4096
theorem looked_ev {x : Isochroneref11_dualA} (hv : Fr lim x.v) (hd : Fr lim x.d) (hm : x.most ≤ 4096) : Ev id (fun K => r11_looked K x) Du := by
 unfold r11_looked
 have zz : Fr 20000 ⟨false, [], [1]⟩ := Fr.zero (by omega)
 refine Ev.bind (P := fun o => o = .out ⟨⟨false, [], [1]⟩, ⟨false, [], [1]⟩, 0, true⟩ ∨ (o = .go () ∧ Du x)) ?_ ?_
 ·refine Ev.bind (P := fun b => b = true ∨ (b = false ∧ Du x)) ?_ fun b hb => ?_
  ·by_cases hf : x.far = true
   ·simp only [hf, if_true]; exact Ev.ret (.inl rfl)
   ·simp only [hf, Bool.false_eq_true, if_false]
    refine Ev.bind (To_ev hv (Nat.le_refl _)) fun u hu => ?_
    unfold r02_Short
    by_cases h1 : (u.num.length : Int) ≤ x.most
    ·simp only [leT h1, if_true, Option.bind_some]
     by_cases h2 : (u.den.length : Int) ≤ x.most
     ·simp only [leT h2, Bool.not_true, Bool.false_eq_true, if_false]
      refine Ev.bind (To_ev hd (Nat.le_refl _)) fun w hw => ?_
      by_cases h3 : (w.num.length : Int) ≤ x.most
      ·simp only [leT h3, if_true, Option.bind_some]
       by_cases h4 : (w.den.length : Int) ≤ x.most
       ·simp only [leT h4, Bool.not_true]
        exact Ev.ret (.inr ⟨rfl, ⟨hv.1, hv.2.1, hv.2.2.1, hv.2.2.2.1, by omega, by omega⟩, ⟨hd.1, hd.2.1, hd.2.2.1, hd.2.2.2.1, by omega, by omega⟩, hm⟩)
       ·simp only [leF (show x.most < (w.den.length : Int) by omega), Bool.not_false]
        exact Ev.ret (.inl rfl)
      ·simp only [leF (show x.most < (w.num.length : Int) by omega), Bool.false_eq_true, if_false, Option.bind_some, Bool.not_false]
       exact Ev.ret (.inl rfl)
     ·simp only [leF (show x.most < (u.den.length : Int) by omega), Bool.not_false, if_true]
      exact Ev.ret (.inl rfl)
    ·simp only [leF (show x.most < (u.num.length : Int) by omega), Bool.false_eq_true, if_false, Option.bind_some, Bool.not_false, if_true]
     exact Ev.ret (.inl rfl)
  ·rcases hb with rfl | ⟨rfl, h⟩
   ·simp only [if_true]; exact Ev.ret (.inl rfl)
   ·simp only [Bool.false_eq_true, if_false]; exact Ev.ret (.inr ⟨rfl, h⟩)
 ·rintro o (rfl | ⟨rfl, h⟩)
  ·exact Ev.ret ⟨zz, zz, by decide⟩
  ·exact Ev.ret h
theorem plain_ev {v : Isochroneref02_RatA} {m : Int} (hv : Fr lim v) (hm : m ≤ 4096) : Ev id (fun K => r11_plain K v m) Du := by
 unfold r11_plain
 exact Ev.op _ rfl (Ev.bind (looked_ev hv (Fr.zero (by unfold lim; omega)) hm) fun r hr => Ev.ret hr)
theorem sum_ev {a b : Isochroneref11_dualA} (ha : Du a) (hb : Du b) : Ev id (fun K => r11_sum K a b) Du := by
 unfold r11_sum
 have hl : 5 * 20000 + 5 ≤ lim := by unfold lim; omega
 have zz : Fr 20000 ⟨false, [], [1]⟩ := Fr.zero (by omega)
 have rest : Ev id (fun K => (r02_Add K a.v b.v).bind fun r9 => (r02_Add K a.d b.d).bind fun r11 => (r11_looked K (Isochroneref11_dualA.mk r9 r11 a.most false)).bind fun r13 => some r13) Du :=
  Ev.bind (RAdd_ev ha.1 hb.1 hl) fun x hx => Ev.bind (RAdd_ev ha.2.1 hb.2.1 hl) fun y hy => Ev.bind (looked_ev (hx.mono hl) (hy.mono hl) ha.2.2) fun r hr => Ev.ret hr
 cases a.far with
 | true => exact Ev.ret ⟨zz, zz, by decide⟩
 | false =>
  cases b.far with
  | true => exact Ev.ret ⟨zz, zz, by decide⟩
  | false => exact rest
theorem product_ev {a b : Isochroneref11_dualA} (ha : Du a) (hb : Du b) : Ev id (fun K => r11_product K a b) Du := by
 unfold r11_product
 have hl : 5 * 20000 + 5 ≤ lim := by unfold lim; omega
 have zz : Fr 20000 ⟨false, [], [1]⟩ := Fr.zero (by omega)
 have rest : Ev id (fun K => (r02_Mul K a.v b.v).bind fun r9 => (r02_Mul K a.d b.v).bind fun r11 => (r02_Mul K a.v b.d).bind fun r13 => (r02_Add K r11 r13).bind fun r15 => (r11_looked K (Isochroneref11_dualA.mk r9 r15 a.most false)).bind fun r17 => some r17) Du :=
  Ev.bind (RMul_ev ha.1 hb.1 (by unfold lim; omega)) fun x hx => Ev.bind (RMul_ev ha.2.1 hb.1 (by unfold lim; omega)) fun y hy => Ev.bind (RMul_ev ha.1 hb.2.1 (by unfold lim; omega)) fun z hz =>
   Ev.bind (RAdd_ev hy hz (by unfold lim; omega)) fun u hu => Ev.bind (looked_ev (hx.mono (by unfold lim; omega)) (hu.mono (by unfold lim; omega)) ha.2.2) fun r hr => Ev.ret hr
 cases a.far with
 | true => exact Ev.ret ⟨zz, zz, by decide⟩
 | false =>
  cases b.far with
  | true => exact Ev.ret ⟨zz, zz, by decide⟩
  | false => exact rest
end Go.Proofs.YtphgabghcedphaaGreatDoor
namespace Go.Proofs.YtphgabghcedphaaGreatDoor
open Go Go.Iso Go.Proofs
set_option linter.unusedSimpArgs false
set_option linter.unusedVariables false
set_option maxRecDepth 100000
theorem r10_Variable_eq {K : Nat} {s : ByteArray} (hK : 12 < K) (hs : s.size < 9223372036854775807) : r10_Variable K s = some (varB s) := by
 unfold r10_Variable varB unpB
 by_cases h0 : s.size = 0
 ·have e : decide ((0 : Int) < (s.size : Int)) = false := decide_eq_false (by omega)
  have e2 : ¬ (0 < s.size ∧ s[s.size - 1]? = some 39) := fun h => absurd h.1 (by omega)
  simp only [e, Bool.false_eq_true, if_false, Option.bind_some, if_neg e2, r08_Name_eq hK]
 ·have e : decide ((0 : Int) < (s.size : Int)) = true := decide_eq_true (by omega)
  have ew : IntKind.wrap .i64 ((s.size : Int) - 1) = ((s.size - 1 : Nat) : Int) := by rw [w64 (by omega) (by omega)]; omega
  obtain ⟨h1, h2⟩ := strAt_get (s := s) (i := s.size - 1) (by omega)
  simp only [e, if_true, ew, h1, Option.bind_some, byte39]
  rw [h2]
  by_cases h3 : s[s.size - 1] = 39
  ·have e3 : (s[s.size - 1] == 39) = true := by rw [h3]; rfl
   have e4 : cutStr s none (some ((s.size - 1 : Nat) : Int)) = some (s.extract 0 (s.size - 1)) := by
    unfold cutStr
    simp only [Option.getD_some, Option.getD_none]
    rw [if_pos (by omega)]; rfl
   rw [if_pos (show 0 < s.size ∧ some s[s.size - 1] = some 39 from ⟨by omega, by rw [h3]⟩)]
   simp only [e3, if_true, e4, Option.bind_some, r08_Name_eq hK]
  ·have e3 : (s[s.size - 1] == 39) = false := beq_eq_false_iff_ne.2 h3
   rw [if_neg (show ¬ (0 < s.size ∧ some s[s.size - 1] = some 39) from fun h => h3 (Option.some.inj h.2))]
   simp only [e3, Bool.false_eq_true, if_false, Option.bind_some, r08_Name_eq hK]
theorem Var_ev {s : ByteArray} (hs : s.size < 9223372036854775807) : Ev id (fun K => r10_Variable K s) (fun b => b = varB s) := ⟨13, _, rfl, fun i hi => r10_Variable_eq hi hs⟩
theorem Ev.and {ι α : Type} {κ : ι → Nat} (hne : ∀ k, ∃ i, k ≤ κ i) {f : ι → Option α} {P Q : α → Prop} (h1 : Ev κ f P) (h2 : Ev κ f Q) : Ev κ f fun r => P r ∧ Q r := by
 obtain ⟨k1, r1, p1, e1⟩ := h1
 obtain ⟨k2, r2, p2, e2⟩ := h2
 obtain ⟨i, hi⟩ := hne (max k1 k2)
 have : r1 = r2 := Option.some.inj ((e1 i (by omega)).symm.trans (e2 i (by omega)))
 subst this
 exact ⟨k1, r1, ⟨p1, p2⟩, e1⟩
/-! ### Numbers of states -/
abbrev zV : RatA := ⟨false, [], [1]⟩
def Vf (v : RatA) : Prop := v.num.length ≤ 4096 ∧ v.den.length ≤ 4096 ∧ v.num.getLast? ≠ some 0 ∧ v.den ≠ [] ∧ v.den.getLast? ≠ some 0 ∧ (v.num = [] → v = zV)
def vOk (v : RatA) : Prop := Ev id (fun K => r11_small K v 400) (fun b => b = true)
theorem r01_Valid_eq {K : Nat} {l : List Int} : ∃ b, r01_Valid K l = some b ∧ (b = true → l.length ≤ 4096 ∧ l.getLast? ≠ some 0) := by
 unfold r01_Valid
 by_cases h : l.length ≤ 4096
 ·rw [leT (by omega), if_pos rfl]
  by_cases h0 : l = []
  ·subst h0; exact ⟨true, rfl, fun _ => ⟨by simp, by simp⟩⟩
  ·have hp : l.length ≠ 0 := fun e => h0 (List.length_eq_zero_iff.1 e)
   have e : IntKind.wrap .i64 ((l.length : Int) - 1) = ((l.length - 1 : Nat) : Int) := by rw [w64 (by omega) (by omega)]; omega
   rw [int_ne0 hp, e, idx_get (show l.length - 1 < l.length by omega)]
   refine ⟨_, rfl, fun hb => ⟨h, ?_⟩⟩
   rw [List.getLast?_eq_getElem?, List.getElem?_eq_getElem (by omega)]
   intro e; rw [Option.some.inj e] at hb; cases hb
 ·rw [leF (by omega)]
  exact ⟨false, rfl, fun h => by cases h⟩
theorem valid_ev {v : RatA} (hw : v.words) : Ev id (fun K => r02_Valid K v) (fun b => b = true → Vf v) := by
 unfold r02_Valid
 obtain ⟨b1, h1, f1⟩ := r01_Valid_eq (K := 0) (l := v.num)
 obtain ⟨b2, h2, f2⟩ := r01_Valid_eq (K := 0) (l := v.den)
 have h1' : ∀ K, r01_Valid K v.num = some b1 := fun K => h1
 have h2' : ∀ K, r01_Valid K v.den = some b2 := fun K => h2
 simp only [h1', h2', Option.bind_some]
 cases b1 with
 | false => exact Ev.ret (fun h => by cases h)
 | true =>
  cases b2 with
  | false => exact Ev.ret (fun h => by cases h)
  | true =>
   obtain ⟨l1, n1⟩ := f1 rfl
   obtain ⟨l2, n2⟩ := f2 rfl
   simp only [Bool.not_true, Bool.false_eq_true, if_false, Option.bind_some]
   by_cases hd : v.den = []
   ·rw [hd]; exact Ev.ret (fun h => by cases h)
   ·have hdl : v.den.length ≠ 0 := fun e => hd (List.length_eq_zero_iff.1 e)
    simp only [int_ne0 hdl, Bool.false_eq_true, if_false, Option.bind_some, Out.fin_go]
    by_cases hn : v.num = []
    ·simp only [hn, List.length_nil, int_eq0 rfl, if_true]
     cases hneg : v.neg with
     | true => exact Ev.ret (fun h => by cases h)
     | false =>
      simp only [Bool.not_false, if_true]
      by_cases h1 : v.den.length = 1
      ·obtain ⟨x, hx⟩ := List.length_eq_one_iff.1 h1
       simp only [hx, List.length_singleton, Int.natCast_one, beq_self_eq_true, if_true, show idx [x] (0 : Int) = some x from rfl, Option.bind_some]
       refine Ev.ret fun h => ⟨l1, l2, n1, hd, n2, fun _ => ?_⟩
       have : x = 1 := beq_iff_eq.1 h
       obtain ⟨a, b, c⟩ := v
       dsimp only at hn hneg hx; rw [hn, hneg, hx, this]
      ·simp only [int_ne0' h1, Bool.false_eq_true, if_false]; exact Ev.ret (fun h => by cases h)
    ·have hnl : v.num.length ≠ 0 := fun e => hn (List.length_eq_zero_iff.1 e)
     simp only [int_ne0 hnl, Bool.false_eq_true, if_false]
     refine Ev.bind (Of_ev hw.1 (by unfold lim; omega)) fun a ha => Ev.bind (Of_ev hw.2 (by unfold lim; omega)) fun b hb => ?_
     refine Ev.bind (GCD_ev ha.1 hb.1 (by unfold lim; omega) (by unfold lim; omega) (ha.2.2 hn n1) (hb.2.2 hd n2)) fun g hg => ?_
     refine Ev.bind (Cmp_ev hg.1 one_nm.1 (by omega)) fun c hc => Ev.ret fun _ => ⟨l1, l2, n1, hd, n2, fun h => absurd h hn⟩
theorem small_ev {v : RatA} (hw : v.words) : Ev id (fun K => r11_small K v 400) (fun b => (b = true → vOk v ∧ Vf v) ∧ (b = false → ¬ vOk v)) := by
 have h : Ev id (fun K => r11_small K v 400) (fun b => b = true → Vf v) := by
  unfold r11_small
  refine Ev.bind (valid_ev hw) fun b hb => ?_
  cases b with
  | false => exact Ev.ret (fun h => by cases h)
  | true => simp only [if_true]; split <;> exact Ev.ret fun _ => hb rfl
 obtain ⟨k, r, hP, hr⟩ := h
 refine ⟨k, r, ⟨fun e => ⟨⟨k, r, e, hr⟩, hP e⟩, fun e h => ?_⟩, hr⟩
 subst e
 obtain ⟨k2, r2, e2, hr2⟩ := h
 subst e2
 have := (hr (max k k2) (by show k ≤ max k k2; omega)).symm.trans (hr2 (max k k2) (by show k2 ≤ max k k2; omega))
 cases this
theorem vOk.fine {v : RatA} (hw : v.words) (h : vOk v) : Vf v := by
 obtain ⟨k, r, ⟨h1, h2⟩, hr⟩ := small_ev hw
 cases r with
 | false => exact absurd h (h2 rfl)
 | true => exact (h1 rfl).2
theorem zV_words : zV.words := ⟨fun z h => (by cases h), fun z h => by obtain rfl := List.mem_singleton.1 h; omega⟩
theorem zV_ok : vOk zV := ⟨10, true, rfl, fun i hi => by
 obtain ⟨k, rfl⟩ : ∃ k, i = k + 10 := ⟨i - 10, by simp only [id] at hi; omega⟩
 rfl⟩
theorem ROf_ev {v : RatA} (hw : v.words) (h : Vf v) : Ev id (fun K => r02_Of K v) (Fr lim) := by
 obtain ⟨l1, l2, n1, hd, n2, hz⟩ := h
 unfold r02_Of
 refine Ev.bind (Of_ev hw.1 (by unfold lim; omega)) fun a ha => Ev.bind (Of_ev hw.2 (by unfold lim; omega)) fun b hb => Ev.ret ?_
 refine ⟨ha.1, hb.1, hb.2.2 hd n2, fun e => ?_, by dsimp only; unfold lim; omega, by dsimp only; unfold lim; omega⟩
 dsimp only at e ⊢
 by_cases hn : v.num = []
 ·rw [hz hn]
 ·have := ha.2.2 hn n1; rw [e] at this; simp [vl] at this
end Go.Proofs.YtphgabghcedphaaGreatDoor
namespace Go.Proofs.YtphgabghcedphaaGreatDoor
open Go Go.Iso Go.Proofs
set_option linter.unusedSimpArgs false
set_option linter.unusedVariables false
set_option maxRecDepth 100000
abbrev Bnd := Api_BindingA
def BOk (b : Bnd) : Prop := varB b.name = true ∧ vOk b.val ∧ b.val.num ≠ []
def Wd (s : List Bnd) : Prop := ∀ b ∈ s, b.val.words ∧ b.name.size < 4611686018427387904
def StOk (s : List Bnd) : Prop := s.length ≤ 40 ∧ (∀ b ∈ s, BOk b) ∧ s.Pairwise fun a b => ltS a.name b.name = true
theorem pair_adj {s : List Bnd} : (s.Pairwise fun a b => ltS a.name b.name = true) ↔ ∀ j (hj : j + 1 < s.length), ltS s[j].name s[j + 1].name = true := by
 induction s with
 | nil => exact ⟨fun _ j hj => by simp at hj, fun _ => List.Pairwise.nil⟩
 | cons x s ih =>
  rw [List.pairwise_cons, ih]
  constructor
  ·rintro ⟨h1, h2⟩ j hj
   cases j with
   | zero => exact h1 _ (List.getElem_mem _)
   | succ j => exact h2 j (by simpa using hj)
  ·intro h
   refine ⟨fun a ha => ?_, fun j hj => h (j + 1) (by simpa using hj)⟩
   obtain ⟨i, hi, rfl⟩ := List.mem_iff_getElem.1 ha
   clear ha
   induction i with
   | zero => exact h 0 (by simpa using hi)
   | succ i ih2 => exact bl_trans (ih2 (by omega)) (h (i + 1) (by simpa using hi))
theorem Valid_ev {s : List Bnd} (hw : Wd s) : Ev id (fun K => r11_Valid K s) (fun b => b = true ↔ StOk s) := by
 unfold r11_Valid
 by_cases h40 : 40 < s.length
 ·rw [ltT (by omega)]
  simp only [if_true]
  exact Ev.ret ⟨fun h => (by cases h), fun h => absurd h.1 (by omega)⟩
 ·rw [ltF (by omega)]
  simp only [Bool.false_eq_true, if_false]
  refine Ev.bind (P := fun o => (o = .go () ∧ StOk s) ∨ (o = .out false ∧ ¬ StOk s)) ?_ ?_
  ·refine Ev.iter (fun i' : Int => ∃ i : Nat, i' = i ∧ i ≤ s.length ∧ (∀ j (hj : j < s.length), j < i → BOk s[j]) ∧ ∀ j (hj : j + 1 < s.length), j + 1 < i → ltS s[j].name s[j + 1].name = true) (fun i' => s.length - i'.toNat) ?_ ⟨0, rfl, Nat.zero_le _, fun j _ h => absurd h (by omega), fun j _ h => absurd h (by omega)⟩
   rintro i' ⟨i, rfl, hi, f1, f2⟩ G hG
   by_cases hi' : i < s.length
   ·have hm := List.getElem_mem hi'
    have hwd := hw _ hm
    have bad : (¬ BOk s[i] ∨ ∃ j, ∃ hj : j + 1 < s.length, ltS s[j].name s[j + 1].name ≠ true) → ¬ StOk s := by
     rintro (h | ⟨j, hj, h⟩) hs
     ·exact h (hs.2.1 _ hm)
     ·exact h (pair_adj.1 hs.2.2 j hj)
    have out : ¬ StOk s → Ev id (fun _ : Nat => (some (.out false) : Option (Out Unit Bool))) (fun o => (o = .go () ∧ StOk s) ∨ (o = .out false ∧ ¬ StOk s)) := fun h => Ev.ret (.inr ⟨rfl, h⟩)
    simp only [ltT (show (i : Int) < (s.length : Int) by omega), if_true, idx_get hi', Option.bind_some]
    refine Ev.bind (P := fun o => (o = .go () ∧ BOk s[i] ∧ ∀ j (hj : j + 1 < s.length), j + 1 = i → ltS s[j].name s[j + 1].name = true) ∨ (o = .out (.out false) ∧ ¬ StOk s)) ?_ ?_
    ·refine Ev.bind (P := fun b => (b = false ∧ BOk s[i] ∧ ∀ j (hj : j + 1 < s.length), j + 1 = i → ltS s[j].name s[j + 1].name = true) ∨ (b = true ∧ ¬ StOk s)) ?_ ?_
     ·refine Ev.bind (Var_ev (by omega)) fun v hv => ?_
      by_cases hvb : varB s[i].name = true
      ·rw [hv, hvb]
       simp only [Bool.not_true, Bool.false_eq_true, if_false]
       refine Ev.bind (small_ev hwd.1) fun m hm' => ?_
       cases m with
       | false => exact Ev.ret (.inr ⟨rfl, bad (.inl fun h => hm'.2 rfl h.2.1)⟩)
       | true =>
        simp only [Bool.not_true, Bool.false_eq_true, if_false]
        by_cases hn : s[i].val.num = []
        ·simp only [hn, List.length_nil, int_eq0 rfl, if_true]
         exact Ev.ret (.inr ⟨rfl, bad (.inl fun h => h.2.2 hn)⟩)
        ·have hnl : s[i].val.num.length ≠ 0 := fun e => hn (List.length_eq_zero_iff.1 e)
         have ok : BOk s[i] := ⟨hvb, (hm'.1 rfl).1, hn⟩
         simp only [int_ne0 hnl, Bool.false_eq_true, if_false]
         cases i with
         | zero =>
          simp only [ltF (show ((0 : Nat) : Int) ≤ 0 by omega), Bool.false_eq_true, if_false]
          exact Ev.ret (.inl ⟨rfl, ok, fun j hj h => absurd h (by omega)⟩)
         | succ k =>
          have e : IntKind.wrap .i64 (((k + 1 : Nat) : Int) - 1) = (k : Int) := w64p (by omega)
          simp only [ltT (show (0 : Int) < ((k + 1 : Nat) : Int) by omega), if_true, e, idx_get (show k < s.length by omega), Option.bind_some]
          cases hl : Op.bytesLess s[k].name.toList s[k + 1].name.toList with
          | true => exact Ev.ret (.inl ⟨rfl, ok, fun j hj h => by obtain rfl : j = k := by omega
                                                                  exact hl⟩)
          | false => exact Ev.ret (.inr ⟨rfl, bad (.inr ⟨k, hi', by unfold ltS; rw [hl]; decide⟩)⟩)
      ·have hvf : varB s[i].name = false := by simpa using hvb
       rw [hv, hvf]
       exact Ev.ret (.inr ⟨rfl, bad (.inl fun h => hvb h.1)⟩)
     ·rintro b (⟨rfl, h⟩ | ⟨rfl, h⟩)
      ·exact Ev.ret (.inl ⟨rfl, h⟩)
      ·exact Ev.ret (.inr ⟨rfl, h⟩)
    ·rintro o (⟨rfl, h1, h2⟩ | ⟨rfl, h⟩)
     ·simp only [Out.fin_go, w64s (show i < 9223372036854775807 by omega)]
      refine hG _ ⟨i + 1, rfl, by omega, fun j hj h => ?_, fun j hj h => ?_⟩ (by omega)
      ·rcases Nat.lt_or_ge j i with h3 | h3
       ·exact f1 j hj h3
       ·obtain rfl : j = i := by omega
        exact h1
      ·rcases Nat.lt_or_ge (j + 1) i with h3 | h3
       ·exact f2 j hj h3
       ·exact h2 j hj (by omega)
     ·exact out h
   ·obtain rfl : i = s.length := by omega
    simp only [ltF (Int.le_refl (s.length : Int)), Bool.false_eq_true, if_false]
    refine Ev.ret (.inl ⟨rfl, by omega, fun b hb => ?_, pair_adj.2 fun j hj => f2 j hj hj⟩)
    obtain ⟨j, hj, rfl⟩ := List.mem_iff_getElem.1 hb
    exact f1 j hj hj
  ·rintro o (⟨rfl, h⟩ | ⟨rfl, h⟩)
   ·exact Ev.ret ⟨fun _ => h, fun _ => rfl⟩
   ·exact Ev.ret ⟨fun e => (by cases e), fun e => absurd e h⟩
/-! ### Looking up -/
def gS : List Bnd → ByteArray → RatA
 | [], _ => zV
 | b :: s, n => if b.name.toList == n.toList then b.val else gS s n
theorem zero_to : Ev id (fun K => (r02_Zero K).bind fun r9 => (r02_To K r9).bind fun r11 => some r11) (fun r => r = zV) := ⟨10, zV, rfl, fun i hi => by
 obtain ⟨k, rfl⟩ : ∃ k, i = k + 10 := ⟨i - 10, by simp only [id] at hi; omega⟩
 rfl⟩
theorem get_ev {s : List Bnd} {n : ByteArray} (hl : s.length ≤ 1000) : Ev id (fun K => r11_get K s n) (fun v => v = gS s n) := by
 unfold r11_get
 refine Ev.bind (P := fun o => o = .out (gS s n) ∨ (o = .go () ∧ gS s n = zV)) ?_ ?_
 ·refine Ev.iter (fun i' : Int => ∃ i : Nat, i' = i ∧ i ≤ s.length ∧ gS s n = gS (s.drop i) n) (fun i' => s.length - i'.toNat) ?_ ⟨0, rfl, Nat.zero_le _, rfl⟩
  rintro i' ⟨i, rfl, hi, hg⟩ G hG
  by_cases hi' : i < s.length
  ·simp only [ltT (show (i : Int) < (s.length : Int) by omega), if_true, idx_get hi', Option.bind_some]
   rw [List.drop_eq_getElem_cons hi', gS] at hg
   by_cases he : (s[i].name.toList == n.toList) = true
   ·rw [if_pos he] at hg
    simp only [he, if_true, outM_eq]
    exact Ev.ret (.inl (by rw [hg]))
   ·rw [if_neg he] at hg
    simp only [he, Bool.false_eq_true, if_false, w64s (show i < 9223372036854775807 by omega)]
    exact hG _ ⟨i + 1, rfl, by omega, hg⟩ (by omega)
  ·obtain rfl : i = s.length := by omega
   simp only [ltF (Int.le_refl (s.length : Int)), Bool.false_eq_true, if_false]
   rw [List.drop_length] at hg
   exact Ev.ret (.inr ⟨rfl, hg⟩)
 ·rintro o (rfl | ⟨rfl, h⟩)
  ·exact Ev.ret rfl
  ·simp only [Out.fin_go]
   refine zero_to.mono fun r hr => by rw [hr, h]
/-! ### Setting -/
def nF (n : ByteArray) (s : List Bnd) : List Bnd := s.filter fun b => !(b.name.toList == n.toList)
def insS (n : ByteArray) (v : RatA) : List Bnd → List Bnd
 | [] => [⟨n, v⟩]
 | b :: s => if ltS n b.name then ⟨n, v⟩ :: b :: nF n s else if b.name.toList == n.toList then insS n v s else b :: insS n v s
def putS' (n : ByteArray) (v : RatA) (p : Bool) (s : List Bnd) : List Bnd := if p then nF n s else insS n v s
theorem app72 {l : List Bnd} {d : Bnd} (h : l.length ≤ 1000) : appO 72 l [d] = some (l ++ [d]) := by
 unfold appO; rw [if_pos (by simp only [List.length_singleton]; omega)]
theorem not_le {a b : ByteArray} : (!(Op.bytesLess a.toList b.toList || a.toList == b.toList)) = ltS b a := by
 unfold ltS
 rcases bl_total a.toList b.toList with h | h | h
 ·have h2 : Op.bytesLess b.toList a.toList = false := by
   cases e : Op.bytesLess b.toList a.toList with
   | false => rfl
   | true => have := bl_trans h e; rw [bl_irrefl] at this; cases this
  rw [h, h2]; rfl
 ·rw [h, bl_irrefl]; simp
 ·have h2 : Op.bytesLess a.toList b.toList = false := by
   cases e : Op.bytesLess a.toList b.toList with
   | false => rfl
   | true => have := bl_trans h e; rw [bl_irrefl] at this; cases this
  have h3 : (a.toList == b.toList) = false := by
   rw [beq_eq_false_iff_ne]; intro e; rw [e, bl_irrefl] at h; cases h
  rw [h, h2, h3]; rfl
theorem lt_ne {a b : ByteArray} (h : ltS a b = true) : (b.toList == a.toList) = false := by
 rw [beq_eq_false_iff_ne]; intro e; unfold ltS at h; rw [e, bl_irrefl] at h; cases h
theorem set_ev {s : List Bnd} {n : ByteArray} {v : RatA} (hl : s.length ≤ 100) : Ev id (fun K => r11_set K s n v) (fun r => r = putS' n v ((v.num.length : Int) == 0) s) := by
 unfold r11_set
 generalize hR : putS' n v ((v.num.length : Int) == 0) s = R
 refine Ev.bind (P := fun e : Bool × List Bnd => R = e.2 ++ putS' n v e.1 [] ∧ e.2.length ≤ 1000) ?_ ?_
 ·refine Ev.iter (fun e : Bool × Int × List Bnd => ∃ i : Nat, e.2.1 = i ∧ i ≤ s.length ∧ R = e.2.2 ++ putS' n v e.1 (s.drop i) ∧ e.2.2.length ≤ 2 * i) (fun e => s.length - e.2.1.toNat) ?_ ⟨0, rfl, Nat.zero_le _, hR.symm, by simp⟩
  rintro ⟨p, i', out⟩ ⟨i, rfl, hi, hr, ho⟩ G hG
  dsimp only at hr ho hG ⊢
  by_cases hi' : i < s.length
  ·simp only [ltT (show (i : Int) < (s.length : Int) by omega), if_true, idx_get hi', Option.bind_some]
   rw [List.drop_eq_getElem_cons hi'] at hr
   generalize hb : s[i] = b at *
   have w := w64s (show i < 9223372036854775807 by omega)
   have go : ∀ (p' : Bool) (o' : List Bnd), R = o' ++ putS' n v p' (s.drop (i + 1)) → o'.length ≤ 2 * (i + 1) → Ev id (fun K => G K (p', ((i + 1 : Nat) : Int), o')) (fun e : Bool × List Bnd => R = e.2 ++ putS' n v e.1 [] ∧ e.2.length ≤ 1000) := fun p' o' h1 h2 => hG _ ⟨i + 1, rfl, by omega, h1, h2⟩ (by dsimp only; omega)
   cases p with
   | true =>
    simp only [Bool.not_true, Bool.false_eq_true, if_false, Option.bind_some]
    rw [putS', if_pos rfl, nF, List.filter_cons] at hr
    cases he : (b.name.toList == n.toList) with
    | true =>
     rw [he] at hr
     simp only [Bool.not_true, Bool.false_eq_true, if_false, Option.bind_some, w] at hr ⊢
     exact go _ _ hr (by omega)
    | false =>
     rw [he] at hr
     simp only [Bool.not_false, if_true, app72 (show out.length ≤ 1000 by omega), Option.bind_some, w] at hr ⊢
     exact go _ _ (by rw [List.append_assoc]; exact hr) (by simp; omega)
   | false =>
    rw [putS', if_neg Bool.false_ne_true, insS] at hr
    simp only [Bool.not_false, if_true, not_le, Option.bind_some]
    cases hlt : ltS n b.name with
    | true =>
     rw [hlt] at hr
     simp only [if_true, app72 (show out.length ≤ 1000 by omega), Option.bind_some, lt_ne hlt, Bool.not_false, app72 (show (out ++ [(⟨n, v⟩ : Bnd)]).length ≤ 1000 by simp; omega), w] at hr ⊢
     exact go _ _ (by rw [List.append_assoc, List.append_assoc]; exact hr) (by simp; omega)
    | false =>
     rw [hlt] at hr
     simp only [Bool.false_eq_true, if_false, Option.bind_some] at hr ⊢
     cases he : (b.name.toList == n.toList) with
     | true =>
      rw [he] at hr
      simp only [Bool.not_true, Bool.false_eq_true, if_false, if_true, Option.bind_some, w] at hr ⊢
      exact go _ _ hr (by omega)
     | false =>
      rw [he] at hr
      simp only [Bool.not_false, if_true, Bool.false_eq_true, if_false, app72 (show out.length ≤ 1000 by omega), Option.bind_some, w] at hr ⊢
      exact go _ _ (by rw [List.append_assoc]; exact hr) (by simp; omega)
  ·obtain rfl : i = s.length := by omega
   simp only [ltF (Int.le_refl (s.length : Int)), Bool.false_eq_true, if_false]
   rw [List.drop_length] at hr
   exact Ev.ret ⟨hr, by dsimp only; omega⟩
 ·rintro ⟨p, out⟩ ⟨h1, h2⟩
  dsimp only at h1 h2 ⊢
  cases p with
  | true =>
   simp only [Bool.not_true, Bool.false_eq_true, if_false]
   rw [putS', if_pos rfl] at h1
   exact Ev.ret (by rw [h1]; simp [nF])
  | false =>
   simp only [Bool.not_false, if_true, app72 h2, Option.bind_some]
   exact Ev.ret h1.symm
end Go.Proofs.YtphgabghcedphaaGreatDoor
namespace Go.Proofs.YtphgabghcedphaaGreatDoor
open Go Go.Iso Go.Proofs
set_option linter.unusedSimpArgs false
set_option linter.unusedVariables false
set_option maxRecDepth 100000
section
variable {n m x y : ByteArray} {v : RatA} {s : List Bnd}
theorem mem_nF {b : Bnd} (h : b ∈ nF n s) : b ∈ s := (List.mem_filter.1 h).1
theorem mem_insS {b : Bnd} : ∀ {s : List Bnd}, b ∈ insS n v s → b = ⟨n, v⟩ ∨ b ∈ s
 | [], h => .inl (by simpa [insS] using h)
 | c :: s, h => by
  unfold insS at h
  split at h
  ·rcases List.mem_cons.1 h with h | h
   ·exact .inl h
   ·rcases List.mem_cons.1 h with h | h
    ·exact .inr (by rw [h]; exact List.mem_cons_self ..)
    ·exact .inr (List.mem_cons_of_mem _ (mem_nF h))
  ·split at h
   ·rcases mem_insS h with h | h
    ·exact .inl h
    ·exact .inr (List.mem_cons_of_mem _ h)
   ·rcases List.mem_cons.1 h with h | h
    ·exact .inr (by rw [h]; exact List.mem_cons_self ..)
    ·rcases mem_insS h with h | h
     ·exact .inl h
     ·exact .inr (List.mem_cons_of_mem _ h)
theorem len_nF : (nF n s).length ≤ s.length := List.length_filter_le ..
theorem len_insS : ∀ {s : List Bnd}, (insS n v s).length ≤ s.length + 1
 | [] => by simp [insS]
 | c :: s => by
  unfold insS
  split
  ·have := @len_nF n s; simp only [List.length_cons]; omega
  ·split
   ·have := @len_insS s; simp only [List.length_cons]; omega
   ·have := @len_insS s; simp only [List.length_cons]; omega
theorem pw_insS : ∀ {s : List Bnd}, (s.Pairwise fun a b => ltS a.name b.name = true) → (insS n v s).Pairwise fun a b => ltS a.name b.name = true
 | [], _ => by simp [insS]
 | c :: s, h => by
  have h' := h
  rw [List.pairwise_cons] at h
  unfold insS
  split
  ·next hlt =>
   rw [List.pairwise_cons, List.pairwise_cons]
   refine ⟨fun b hb => ?_, fun b hb => h.1 b (mem_nF hb), h.2.filter _⟩
   rcases List.mem_cons.1 hb with hb | hb
   ·rw [hb]; exact hlt
   ·exact bl_trans hlt (h.1 b (mem_nF hb))
  ·next hlt =>
   split
   ·exact pw_insS h.2
   ·next hne =>
    rw [List.pairwise_cons]
    refine ⟨fun b hb => ?_, pw_insS h.2⟩
    rcases mem_insS hb with hb | hb
    ·subst hb
     rcases bl_total c.name.toList n.toList with h1 | h1 | h1
     ·exact h1
     ·exact absurd (beq_iff_eq.2 h1) hne
     ·exact absurd h1 hlt
    ·exact h.1 b hb
theorem gS_nF : ∀ {s : List Bnd}, gS (nF n s) m = if m.toList == n.toList then zV else gS s m
 | [] => by simp [nF, gS]
 | c :: s => by
  have ih := @gS_nF s
  unfold nF at ih ⊢
  rw [List.filter_cons]
  by_cases h : (c.name.toList == n.toList) = true
  ·rw [h]
   simp only [Bool.not_true, Bool.false_eq_true, if_false]
   rw [ih, gS]
   by_cases h2 : (m.toList == n.toList) = true
   ·rw [if_pos h2, if_pos h2]
   ·rw [if_neg h2, if_neg h2, if_neg]
    intro h3; rw [beq_iff_eq] at h h2 h3; exact h2 (h3.symm.trans h)
  ·have hf : (c.name.toList == n.toList) = false := by simpa using h
   rw [hf]
   simp only [Bool.not_false, if_true]
   rw [gS, gS, ih]
   by_cases h2 : (m.toList == n.toList) = true
   ·rw [if_pos h2, if_pos h2, if_neg]
    intro h3; rw [beq_iff_eq] at h2 h3; exact h (beq_iff_eq.2 (h3.trans h2))
   ·rw [if_neg h2, if_neg h2]
theorem gS_insS : ∀ {s : List Bnd}, gS (insS n v s) m = if m.toList == n.toList then v else gS s m
 | [] => by
  unfold insS gS gS
  by_cases h : m.toList = n.toList
  ·rw [if_pos (beq_iff_eq.2 h.symm), if_pos (beq_iff_eq.2 h)]
  ·rw [if_neg (fun e => h (beq_iff_eq.1 e).symm), if_neg (fun e => h (beq_iff_eq.1 e))]
 | c :: s => by
  have ih := @gS_insS s
  unfold insS
  by_cases h : m.toList = n.toList
  ·rw [if_pos (beq_iff_eq.2 h)] at ih ⊢
   split
   ·rw [gS, if_pos (beq_iff_eq.2 h.symm)]
   ·split
    ·exact ih
    ·next hne => rw [gS, if_neg (fun e => hne (beq_iff_eq.2 ((beq_iff_eq.1 e).trans h))), ih]
  ·have hb : ¬ (m.toList == n.toList) = true := fun e => h (beq_iff_eq.1 e)
   rw [if_neg hb] at ih ⊢
   split
   ·rw [gS, if_neg (fun e => h (beq_iff_eq.1 e).symm), gS, gS_nF, if_neg hb, gS]
   ·split
    ·next he => rw [ih, gS, if_neg (fun e => h ((beq_iff_eq.1 e).symm.trans (beq_iff_eq.1 he)))]
    ·rw [gS, ih, gS]
def upS (n : ByteArray) (v : RatA) (s : List Bnd) : List Bnd := putS' n v ((v.num.length : Int) == 0) s
theorem gS_up (hz : v.num = [] → v = zV) : gS (upS n v s) m = if m = n then v else gS s m := by
 have e : (m.toList == n.toList) = decide (m = n) := by
  by_cases h : m = n
  ·rw [decide_eq_true h, eqB.2 h]
  ·rw [decide_eq_false h, neB h]
 unfold upS putS'
 by_cases h : v.num = []
 ·rw [h, List.length_nil, int_eq0 rfl, if_pos rfl, gS_nF, e, hz h]; simp
 ·rw [int_ne0 (fun e => h (List.length_eq_zero_iff.1 e)), if_neg Bool.false_ne_true, gS_insS, e]; simp
theorem StOk.up (h : StOk s) (hl : s.length < 40) (hn : varB n = true) (hv : vOk v) : StOk (upS n v s) := by
 unfold upS putS'
 by_cases h0 : v.num = []
 ·rw [h0, List.length_nil, int_eq0 rfl, if_pos rfl]
  exact ⟨by have := @len_nF n s; omega, fun b hb => h.2.1 b (mem_nF hb), h.2.2.filter _⟩
 ·rw [int_ne0 (fun e => h0 (List.length_eq_zero_iff.1 e)), if_neg Bool.false_ne_true]
  refine ⟨by have := @len_insS n v s; omega, fun b hb => ?_, pw_insS h.2.2⟩
  rcases mem_insS hb with hb | hb
  ·rw [hb]; exact ⟨hn, hv, h0⟩
  ·exact h.2.1 b hb
theorem len_up : (upS n v s).length ≤ s.length + 1 := by
 unfold upS putS'
 split
 ·have := @len_nF n s; omega
 ·exact len_insS
theorem Wd.up (h : Wd s) (hn : n.size < 4611686018427387904) (hv : v.words) : Wd (upS n v s) := by
 intro b hb
 unfold upS putS' at hb
 split at hb
 ·exact h b (mem_nF hb)
 ·rcases mem_insS hb with hb | hb
  ·rw [hb]; exact ⟨hv, hn⟩
  ·exact h b hb
theorem gS_words : ∀ {s : List Bnd}, Wd s → (gS s m).words
 | [], _ => zV_words
 | b :: s, h => by
  unfold gS; split
  ·exact (h b (List.mem_cons_self ..)).1
  ·exact gS_words fun c hc => h c (List.mem_cons_of_mem _ hc)
theorem gS_ok : ∀ {s : List Bnd}, (∀ b ∈ s, BOk b) → vOk (gS s m)
 | [], _ => zV_ok
 | b :: s, h => by
  unfold gS; split
  ·exact (h b (List.mem_cons_self ..)).2.1
  ·exact gS_ok fun c hc => h c (List.mem_cons_of_mem _ hc)
theorem gS_zero (h : StOk s) (hw : Wd s) : (gS s m).num = [] → gS s m = zV := ((gS_ok (m := m) h.2.1).fine (gS_words hw)).2.2.2.2.2
theorem Get_ev (hw : Wd s) (hn : n.size < 4611686018427387904) : Ev id (fun K => r11_Get K s n) fun r => r.2 ≠ 0 ∨ (StOk s ∧ r = (gS s n, 0)) := by
 unfold r11_Get
 refine Ev.bind (P := fun o => (o = .out ((RatA.mk false [] []), (3 : Int))) ∨ (o = .go () ∧ StOk s)) ?_ ?_
 ·refine Ev.bind (P := fun b => b = true ∨ (b = false ∧ StOk s)) ?_ fun b hb => ?_
  ·refine Ev.bind (Valid_ev hw) fun b hb => ?_
   cases b with
   | false => exact Ev.ret (.inl rfl)
   | true =>
    simp only [Bool.not_true, Bool.false_eq_true, if_false]
    refine Ev.bind (Var_ev (by omega)) fun c hc => ?_
    cases c with
    | false => exact Ev.ret (.inl rfl)
    | true => exact Ev.ret (.inr ⟨rfl, hb.1 rfl⟩)
  ·rcases hb with rfl | ⟨rfl, h⟩
   ·exact Ev.ret (.inl rfl)
   ·exact Ev.ret (.inr ⟨rfl, h⟩)
 ·rintro o (rfl | ⟨rfl, h⟩)
  ·exact Ev.ret (.inl (by decide))
  ·exact Ev.bind (get_ev (by have := h.1; omega)) fun r hr => Ev.ret (.inr ⟨h, by rw [hr]⟩)
theorem Set_ev (h : StOk s) (hw : Wd s) (hl : s.length < 40) (hn : varB n = true) (hnl : n.size < 4611686018427387904) (hv : vOk v) (hvw : v.words) : Ev id (fun K => r11_Set K s n v) fun r => r = (upS n v s, 0) := by
 unfold r11_Set
 refine Ev.bind (P := fun o => o = .go ()) ?_ ?_
 ·refine Ev.bind (P := fun b => b = false) ?_ fun b hb => by subst hb; exact Ev.ret rfl
  refine Ev.bind (Valid_ev hw) fun b hb => ?_
  obtain rfl : b = true := hb.2 h
  simp only [Bool.not_true, Bool.false_eq_true, if_false]
  refine Ev.bind (Var_ev (by omega)) fun c hc => ?_
  rw [hc, hn]
  simp only [Bool.not_true, Bool.false_eq_true, if_false]
  exact Ev.bind hv fun d hd => by subst hd; exact Ev.ret rfl
 ·rintro o rfl
  refine Ev.bind (set_ev (by omega)) fun r hr => ?_
  have : r.length ≤ s.length + 1 := by rw [hr]; exact len_up
  simp only [ltF (show (r.length : Int) ≤ 40 by omega), Bool.false_eq_true, if_false]
  exact Ev.ret (by rw [hr]; rfl)
end
/-! ### The exchanged state -/
section
variable {x y : ByteArray} {s : List Bnd}
theorem tk_ne {x z : ByteArray} (h : nameB x = true) : x ≠ z ++ tick := fun e => name_last h (by rw [e]; exact tick_last)
def exT (x y : ByteArray) (s : List Bnd) : Nat → List Bnd
 | 0 => s
 | 1 => upS x (gS s y) s
 | 2 => upS y (gS s x) (upS x (gS s y) s)
 | 3 => upS (x ++ tick) (gS s (y ++ tick)) (upS y (gS s x) (upS x (gS s y) s))
 | _ => upS (y ++ tick) (gS s (x ++ tick)) (upS (x ++ tick) (gS s (y ++ tick)) (upS y (gS s x) (upS x (gS s y) s)))
theorem exT_get (h : StOk s) (hw : Wd s) (m : ByteArray) : gS (exT x y s 4) m = if m = y ++ tick then gS s (x ++ tick) else if m = x ++ tick then gS s (y ++ tick) else if m = y then gS s x else if m = x then gS s y else gS s m := by
 show gS (upS _ _ _) m = _
 rw [gS_up (gS_zero h hw), gS_up (gS_zero h hw), gS_up (gS_zero h hw), gS_up (gS_zero h hw)]
theorem exT_name (h : StOk s) (hw : Wd s) (hx : nameB x = true) (hy : nameB y = true) {v : ByteArray} (hv : nameB v = true) : gS (exT x y s 4) (swB x y v) = gS s v := by
 have hs := swB_name hx hy hv
 rw [exT_get h hw, if_neg (tk_ne hs), if_neg (tk_ne hs)]
 by_cases h1 : v = x
 ·subst h1; rw [swB_x, if_pos rfl]
 ·by_cases h2 : v = y
  ·subst h2
   rw [swB_y]
   by_cases h3 : x = v
   ·exact absurd h3.symm h1
   ·rw [if_neg h3, if_pos rfl]
  ·rw [swB_o h1 h2, if_neg h2, if_neg h1]
theorem exT_tick (h : StOk s) (hw : Wd s) (hx : nameB x = true) (hy : nameB y = true) {v : ByteArray} (hv : nameB v = true) : gS (exT x y s 4) (swB x y v ++ tick) = gS s (v ++ tick) := by
 rw [exT_get h hw]
 by_cases h1 : v = x
 ·subst h1; rw [swB_x, if_pos rfl]
 ·by_cases h2 : v = y
  ·subst h2
   rw [swB_y, if_neg (fun e => h1 (tick_inj e).symm), if_pos rfl]
  ·rw [swB_o h1 h2, if_neg (fun e => h2 (tick_inj e)), if_neg (fun e => h1 (tick_inj e)), if_neg (tk_ne hy).symm, if_neg (tk_ne hx).symm]
theorem exT_ok (h : StOk s) (hw : Wd s) (hl : s.length ≤ 20) (hx : nameB x = true) (hy : nameB y = true) : ∀ i, i ≤ 4 → StOk (exT x y s i) ∧ Wd (exT x y s i) ∧ (exT x y s i).length ≤ 20 + i := by
 have sx := name_size hx
 have sy := name_size hy
 have tx := @tick_size x
 have ty := @tick_size y
 have w : ∀ m, (gS s m).words := fun m => gS_words hw
 have o : ∀ m, vOk (gS s m) := fun m => gS_ok h.2.1
 have step : ∀ {t : List Bnd} {n : ByteArray} {m : ByteArray} {k : Nat}, k < 4 → varB n = true → n.size < 100 → (StOk t ∧ Wd t ∧ t.length ≤ 20 + k) → (StOk (upS n (gS s m) t) ∧ Wd (upS n (gS s m) t) ∧ (upS n (gS s m) t).length ≤ 20 + (k + 1)) := fun hk hn hs ⟨a, b, c⟩ =>
  ⟨a.up (by omega) hn (o _), b.up (by omega) (w _), Nat.le_trans len_up (by omega)⟩
 have s0 : StOk s ∧ Wd s ∧ s.length ≤ 20 + 0 := ⟨h, hw, hl⟩
 have s1 := step (m := y) (by omega) (name_var hx) (by omega) s0
 have s2 := step (m := x) (by omega) (name_var hy) (by omega) s1
 have s3 := step (m := y ++ tick) (by omega) (tick_var hx) (by omega) s2
 have s4 := step (m := x ++ tick) (by omega) (tick_var hy) (by omega) s3
 intro i hi
 match i, hi with
 | 0, _ => exact s0
 | 1, _ => exact s1
 | 2, _ => exact s2
 | 3, _ => exact s3
 | 4, _ => exact s4
end
end Go.Proofs.YtphgabghcedphaaGreatDoor
namespace Go.Proofs.YtphgabghcedphaaGreatDoor
open Go Go.Iso Go.Proofs
set_option linter.unusedSimpArgs false
set_option linter.unusedVariables false
set_option maxRecDepth 100000
/-! ### Operators that occur -/
def anyB (p : Int → Bool) : NodeA → Bool
 | .mk op _ _ ks => p op || ks.attach.any fun ⟨k, _⟩ => anyB p k
termination_by n => SizeOf.sizeOf n
decreasing_by exact NodeA.size_kid (by assumption)
theorem anyB_eq {p : Int → Bool} (n : NodeA) : anyB p n = (p n.op || n.kids.any (anyB p)) := by
 cases n with | mk op m r ks => rw [anyB]; simp [NodeA.op, NodeA.kids]
theorem anyB_ex {p : Int → Bool} {x y : ByteArray} : ∀ n, anyB p (exS x y n) = anyB p n := NodeA.ind fun n ih => by
 rw [anyB_eq, anyB_eq n, exS_op, exS_kids, List.any_map]
 have : n.kids.any (anyB p ∘ exS x y) = n.kids.any (anyB p) := by
  rw [Bool.eq_iff_iff, List.any_eq_true, List.any_eq_true]
  exact ⟨fun ⟨k, hk, h⟩ => ⟨k, hk, (ih k hk).symm.trans h⟩, fun ⟨k, hk, h⟩ => ⟨k, hk, (ih k hk).trans h⟩⟩
 rw [this]
theorem any_kid {p : Int → Bool} {n k : NodeA} (h : anyB p n = false) (hk : k ∈ n.kids) : anyB p k = false := by
 rw [anyB_eq, Bool.or_eq_false_iff] at h
 have := List.any_eq_false.1 h.2 k hk
 simpa using this
theorem any_op {p : Int → Bool} {n : NodeA} (h : anyB p n = false) : p n.op = false := by
 rw [anyB_eq, Bool.or_eq_false_iff] at h; exact h.1
def symO (o : Int) : Bool := o == 10 || (o == 11 || (o == 37 || (o == 38 || (o == 61 || (o == 62 || o == 56)))))
def unkO (o : Int) : Bool := o == 13 || symO o
def modO (o : Int) : Bool := o == 33 || (o == 34 || (o == 35 || (o == 36 || o == 39)))
theorem r10_Symbol_eq {K : Nat} {n : NodeA} : r10_Symbol K n = some (symO n.op) := by
 unfold r10_Symbol symO
 cases n.op == 10 <;> cases n.op == 11 <;> cases n.op == 37 <;> cases n.op == 38 <;> cases n.op == 61 <;> cases n.op == 62 <;> cases n.op == 56 <;> rfl
theorem Meaning_nil {K : Nat} {n : NodeA} (hK : 0 < K) : r11_Meaning K n [] = some (zN, false) := by
 obtain ⟨k, rfl⟩ : ∃ k, K = k + 1 := ⟨K - 1, by omega⟩
 unfold r11_Meaning r10_Head
 by_cases h : 0 < n.kids.length
 ·rw [ltT (show (0 : Int) < (n.kids.length : Int) by omega)]; rfl
 ·rw [ltF (show (n.kids.length : Int) ≤ 0 by omega)]; rfl
theorem unk_iter {K : Nat} : ∀ (n : NodeA) (j : Nat), n.size ≤ j → n.size ≤ K → n.size ≤ big → iter j (fun self q => r11_Unknown_body K self q.1 q.2) (n, []) = some (anyB unkO n) := by
 refine NodeA.ind fun n ih => ?_
 intro j hj hK hb
 have hp := n.size_pos
 have hkl := n.kids_lt
 obtain ⟨j, rfl⟩ : ∃ i, j = i + 1 := ⟨j - 1, by omega⟩
 rw [iter_succ, anyB_eq]
 have ih' : ∀ k ∈ n.kids, iter j (fun self q => r11_Unknown_body K self q.1 q.2) (k, []) = some (anyB unkO k) := fun k hk => ih k hk j (by have := NodeA.size_lt hk; omega) (by have := NodeA.size_lt hk; omega) (by have := NodeA.size_lt hk; omega)
 generalize iter j (fun self q => r11_Unknown_body K self q.1 q.2) = S at ih' ⊢
 unfold r11_Unknown_body
 unfold unkO at ih' ⊢
 simp only [r10_Symbol_eq, Meaning_nil (show 0 < K by omega), Option.bind_some]
 cases h : n.op == 13 with
 | true => rfl
 | false =>
  simp only [Bool.false_eq_true, if_false, Bool.false_or]
  cases h2 : symO n.op with
  | true => rfl
  | false =>
   simp only [Bool.false_eq_true, if_false, Bool.false_or, Option.bind_some, Out.fin_go]
   refine ob _ (scan_any (l := n.kids) (q := anyB fun o => o == 13 || symO o) (by omega) (by omega) (fun g i x hx => ?_) fun g i hi => ?_) ?_
   ·obtain ⟨hlt, rfl⟩ := List.getElem?_eq_some_iff.1 hx
    simp only [lt_tn hlt, if_true, idx_nat, hx, Option.bind_some, ih' _ (List.getElem_mem hlt), outM_eq]
   ·simp only [lt_fn hi, Bool.false_eq_true, if_false]
   ·cases n.kids.any (anyB fun o => o == 13 || symO o) <;> rfl
theorem mod_iter {K : Nat} : ∀ (n : NodeA) (j : Nat), n.size ≤ j → n.size ≤ K → n.size ≤ big → iter j (fun self q => r11_Modal_body K self q) n = some (anyB modO n) := by
 refine NodeA.ind fun n ih => ?_
 intro j hj hK hb
 have hp := n.size_pos
 have hkl := n.kids_lt
 obtain ⟨j, rfl⟩ : ∃ i, j = i + 1 := ⟨j - 1, by omega⟩
 rw [iter_succ, anyB_eq]
 have ih' : ∀ k ∈ n.kids, iter j (fun self q => r11_Modal_body K self q) k = some (anyB modO k) := fun k hk => ih k hk j (by have := NodeA.size_lt hk; omega) (by have := NodeA.size_lt hk; omega) (by have := NodeA.size_lt hk; omega)
 generalize iter j (fun self q => r11_Modal_body K self q) = S at ih' ⊢
 unfold r11_Modal_body
 have e : (if (n.op == (33 : Int)) then some true else if (n.op == (34 : Int)) then some true else if (n.op == (35 : Int)) then some true else if (n.op == (36 : Int)) then some true else some (n.op == (39 : Int)) : Option Bool) = some (modO n.op) := by
  unfold modO
  cases n.op == 33 <;> cases n.op == 34 <;> cases n.op == 35 <;> cases n.op == 36 <;> rfl
 rw [e]
 simp only [Option.bind_some]
 cases h2 : modO n.op with
 | true => rfl
 | false =>
  simp only [Bool.false_eq_true, if_false, Bool.false_or, Option.bind_some, Out.fin_go]
  refine ob _ (scan_any (l := n.kids) (q := anyB modO) (by omega) (by omega) (fun g i x hx => ?_) fun g i hi => ?_) ?_
  ·obtain ⟨hlt, rfl⟩ := List.getElem?_eq_some_iff.1 hx
   simp only [lt_tn hlt, if_true, idx_nat, hx, Option.bind_some, ih' _ (List.getElem_mem hlt), outM_eq]
  ·simp only [lt_fn hi, Bool.false_eq_true, if_false]
  ·cases n.kids.any (anyB modO) <;> rfl
theorem Unknown_eq {K : Nat} {n : NodeA} (hK : n.size ≤ K) (hb : n.size ≤ big) : r11_Unknown K n [] = some (anyB unkO n) := unk_iter n K hK hK hb
theorem Modal_eq {K : Nat} {n : NodeA} (hK : n.size ≤ K) (hb : n.size ≤ big) : r11_Modal K n = some (anyB modO n) := mod_iter n K hK hK hb
/-! ### Both ways at once -/
abbrev Tw := Nat × Bool
abbrev κT : Tw → Nat := Prod.fst
theorem Ev.two {α : Type} {f g : Nat → Option α} {a : α} (h1 : Ev id f fun r => r = a) (h2 : Ev id g fun r => r = a) : Ev κT (fun i => if i.2 then g i.1 else f i.1) fun r => r = a := by
 obtain ⟨k1, r1, rfl, e1⟩ := h1
 obtain ⟨k2, r2, e, e2⟩ := h2
 subst e
 refine ⟨max k1 k2, r2, rfl, fun i hi => ?_⟩
 obtain ⟨i, b⟩ := i
 have hi : max k1 k2 ≤ i := hi
 cases b with
 | true => exact e2 i (by show k2 ≤ i; omega)
 | false => exact e1 i (by show k1 ≤ i; omega)
def eN (x y : ByteArray) (b : Bool) (n : NodeA) : NodeA := if b then exS x y n else n
def sN (x y : ByteArray) (s : List Bnd) (b : Bool) : List Bnd := if b then exT x y s 4 else s
section
variable {x y : ByteArray} {b : Bool} {s : List Bnd}
theorem eN_op (n : NodeA) : (eN x y b n).op = n.op := by unfold eN; split; exact exS_op n; rfl
theorem eN_num (n : NodeA) : (eN x y b n).num = n.num := by unfold eN; split; exact exS_num n; rfl
theorem eN_kids (n : NodeA) : (eN x y b n).kids = n.kids.map (eN x y b) := by
 unfold eN; cases b with
 | true => simp only [if_true]; exact exS_kids n
 | false => simp
theorem idx0 {α : Type} {a : α} {l : List α} : idx (a :: l) 0 = some a := rfl
theorem idx1 {α : Type} {a c : α} {l : List α} : idx (a :: c :: l) 1 = some c := rfl
theorem eN_name {n : NodeA} (h : varOp n.op = true) : (eN x y b n).name = if b then swB x y n.name else n.name := by
 unfold eN; cases b with
 | true => simp only [if_true]; rw [exS_name, exN, if_pos h]
 | false => rfl
structure Ctx (x y : ByteArray) (s : List Bnd) : Prop where
 st : StOk s
 wd : Wd s
 len : s.length ≤ 20
 nx : nameB x = true
 ny : nameB y = true
theorem look_ev (c : Ctx x y s) {n : NodeA} (h : varOp n.op = true) (hn : nameB n.name = true) : Ev κT (fun i => r11_get i.1 (sN x y s i.2) (eN x y i.2 n).name) fun v => v = gS s n.name := by
 have hl := (exT_ok c.st c.wd c.len c.nx c.ny 4 (by omega)).2.2
 have h2 := get_ev (s := exT x y s 4) (n := swB x y n.name) (by omega)
 rw [exT_name c.st c.wd c.nx c.ny hn] at h2
 refine Ev.congr 0 (fun i _ => ?_) (Ev.two (get_ev (s := s) (n := n.name) (by have := c.len; omega)) h2)
 obtain ⟨i, b⟩ := i
 cases b with
 | true => show r11_get i (sN x y s true) (eN x y true n).name = _; rw [eN_name h]; rfl
 | false => rfl
theorem cat_tick (c : Ctx x y s) {n : NodeA} (h : varOp n.op = true) (hn : nameB n.name = true) (b : Bool) : catO (eN x y b n).name (⟨#[39]⟩ : ByteArray) = some ((eN x y b n).name ++ tick) := by
 refine catO_tick ?_
 rw [eN_name h]
 cases b with
 | true => have := name_size (swB_name c.nx c.ny hn); simp only [if_true]; omega
 | false => have := name_size hn; simp only [Bool.false_eq_true, if_false]; omega
theorem lookt_ev (c : Ctx x y s) {n : NodeA} (h : varOp n.op = true) (hn : nameB n.name = true) : Ev κT (fun i => r11_get i.1 (sN x y s i.2) ((eN x y i.2 n).name ++ tick)) fun v => v = gS s (n.name ++ tick) := by
 have hl := (exT_ok c.st c.wd c.len c.nx c.ny 4 (by omega)).2.2
 have h2 := get_ev (s := exT x y s 4) (n := swB x y n.name ++ tick) (by omega)
 rw [exT_tick c.st c.wd c.nx c.ny hn] at h2
 refine Ev.congr 0 (fun i _ => ?_) (Ev.two (get_ev (s := s) (n := n.name ++ tick) (by have := c.len; omega)) h2)
 obtain ⟨i, b⟩ := i
 cases b with
 | true => show r11_get i (sN x y s true) ((eN x y true n).name ++ tick) = _; rw [eN_name h]; rfl
 | false => rfl
theorem Ev.sub {α : Type} {f : Nat → Option α} {P : α → Prop} (h : Ev id f P) : Ev κT (fun i => f i.1) P := h.lift
theorem gS_of (c : Ctx x y s) (m : ByteArray) : Ev κT (fun i => r02_Of i.1 (gS s m)) (Fr lim) :=
 Ev.lift (κ := κT) (ROf_ev (gS_words c.wd) ((gS_ok c.st.2.1).fine (gS_words c.wd)))
end
theorem natS_vf {r : RatA} (h : natS r = true) : Vf r := by
 unfold natS at h
 simp only [Bool.and_eq_true, Bool.not_eq_true', beq_iff_eq, decide_eq_true_eq] at h
 obtain ⟨⟨⟨h1, h2⟩, h3⟩, h4⟩ := h
 refine ⟨by omega, by rw [h2]; simp, fun e => ?_, by rw [h2]; simp, by rw [h2]; simp, fun e => ?_⟩
 ·rw [e] at h4; simp at h4
 ·obtain ⟨a, b, c⟩ := r; dsimp only at h1 h2 e; rw [h1, h2, e]
theorem Int_m1 : Ev id (fun K => r02_Int K (-1)) (Fr lim) := ⟨10, ⟨true, [1], [1]⟩, ⟨one_nm.1, one_nm.1, by rw [one_nm.2]; omega, fun h => (by cases h), by unfold lim; simp, by unfold lim; simp⟩, fun i hi => by
 obtain ⟨k, rfl⟩ : ∃ k, i = k + 10 := ⟨i - 10, by simp only [id] at hi; omega⟩
 rfl⟩
theorem one_of : r02_One = fun K => some ⟨false, [1], [1]⟩ := rfl
theorem Nat_ev {r : RatA} (h : natS r = true) : ∃ z, (∀ K, r08_Natural K r 20 = some z) ∧ z ≤ 20 := by
 have key : ∃ z, r08_Natural 0 r 20 = some z ∧ z ≤ 20 := by
  unfold r08_Natural
  by_cases h0 : r.num.length = 0
  ·rw [int_eq0 h0]; exact ⟨0, rfl, by omega⟩
  ·rw [int_ne0 h0]
   simp only [Bool.false_eq_true, if_false]
   by_cases h1 : 1 < r.num.length
   ·rw [ltT (show (1 : Int) < (r.num.length : Int) by omega)]
    exact ⟨-1, rfl, by omega⟩
   ·rw [ltF (show (r.num.length : Int) ≤ 1 by omega)]
    have hx : idx r.num 0 = some r.num[0] := idx_get (i := 0) (by omega)
    simp only [hx, Option.bind_some, Bool.false_eq_true, if_false]
    by_cases h2 : (20 : Int) < IntKind.wrap .i64 r.num[0]
    ·rw [ltT h2]; exact ⟨-1, rfl, by omega⟩
    ·rw [ltF (by omega)]; exact ⟨_, rfl, by omega⟩
 obtain ⟨z, h1, h2⟩ := key
 exact ⟨z, fun K => h1, h2⟩
end Go.Proofs.YtphgabghcedphaaGreatDoor
namespace Go.Proofs.YtphgabghcedphaaGreatDoor
open Go Go.Iso Go.Proofs
set_option linter.unusedSimpArgs false
set_option linter.unusedVariables false
set_option maxRecDepth 100000
section
variable {x y : ByteArray} {s : List Bnd}
theorem kids_of {n : NodeA} {l : List Int} (hf : Fine n) (hs : sortsC n = l) : n.kids.map (fun k => sortS k.op) = l := by
 obtain ⟨d, fd, fl, h⟩ := hf
 rw [okS_eq] at h
 simp only [Bool.and_eq_true, beq_iff_eq] at h
 rw [h.2.2.2.1, hs]
theorem kids1 {n : NodeA} {z : Int} (h : n.kids.map (fun k => sortS k.op) = [z]) : ∃ k, n.kids = [k] ∧ sortS k.op = z := by
 match hk : n.kids, h with
 | [k], h => exact ⟨k, rfl, by simpa using h⟩
theorem kids2 {n : NodeA} {z w : Int} (h : n.kids.map (fun k => sortS k.op) = [z, w]) : ∃ k l, n.kids = [k, l] ∧ sortS k.op = z ∧ sortS l.op = w := by
 match hk : n.kids, h with
 | [k, l], h => exact ⟨k, l, rfl, by simp at h; exact h.1, by simp at h; exact h.2⟩
theorem fine_num1 {n : NodeA} (hf : Fine n) (h : n.op = 1) : natS n.num = true := by
 obtain ⟨d, fd, fl, hf⟩ := hf
 rw [okS_eq] at hf
 simp only [Bool.and_eq_true] at hf
 have := hf.1
 unfold numC at this
 rw [if_pos (beq_iff_eq.2 h)] at this; exact this
theorem fine_last {n : NodeA} (hf : Fine n) : lastC n = true := by
 obtain ⟨d, fd, fl, hf⟩ := hf
 rw [okS_eq] at hf
 simp only [Bool.and_eq_true] at hf
 exact hf.2.2.2.2.2
theorem sortsC_of {n : NodeA} {o : Int} (h : n.op = o) (h1 : (o == 10 || o == 37) = false) (h2 : (o == 54) = false) : sortsC n = (sortsS o).getD [] := by
 unfold sortsC; rw [h, h1, h2]; rfl
theorem eval_ev (c : Ctx x y s) : ∀ n : NodeA, Fine n → n.words → anyB unkO n = false → sortS n.op = 1 → ∀ (d : Nat) (dot : Isochroneref11_dualA) (live : Bool), Du dot →
  Ev κT (fun i => iter (i.1 - d) (fun self q => r11_eval_body i.1 self q.1 q.2.1 q.2.2.1 q.2.2.2.1 q.2.2.2.2) (eN x y i.2 n, sN x y s i.2, [], dot, live)) Du := by
 refine NodeA.ind fun n ih => ?_
 intro hf hw hu hs d dot live hdot
 have hop : n.op = 1 ∨ n.op = 2 ∨ n.op = 3 ∨ n.op = 4 ∨ n.op = 5 ∨ n.op = 6 ∨ n.op = 7 ∨ n.op = 8 ∨ n.op = 9 ∨ n.op = 12 := by
  have h1 := any_op hu
  unfold unkO symO at h1
  simp only [Bool.or_eq_false_iff, beq_eq_false_iff_ne] at h1
  unfold sortS at hs
  have : 1 ≤ n.op ∧ n.op ≤ 13 := by
   by_cases h2 : 1 ≤ n.op ∧ n.op ≤ 13
   ·exact h2
   ·exfalso
    rw [if_neg (by simp only [Bool.and_eq_true, decide_eq_true_eq]; exact h2)] at hs
    revert hs
    split
    ·decide
    ·split
     ·decide
     ·split <;> decide
  omega
 refine Ev.congr (d + 1) (g := fun i => r11_eval_body i.1 (fun q => iter (i.1 - (d + 1)) (fun self q => r11_eval_body i.1 self q.1 q.2.1 q.2.2.1 q.2.2.2.1 q.2.2.2.2) q) (eN x y i.2 n) (sN x y s i.2) [] dot live) (fun i hi => ?_) ?_
 ·have hi : d + 1 ≤ i.1 := hi
  obtain ⟨e, he⟩ : ∃ e, i.1 - d = e + 1 := ⟨i.1 - (d + 1), by omega⟩
  rw [he, iter_succ, show e = i.1 - (d + 1) by omega]
 have ih' : ∀ k ∈ n.kids, sortS k.op = 1 → ∀ live, Ev κT (fun i => (fun q => iter (i.1 - (d + 1)) (fun self q => r11_eval_body i.1 self q.1 q.2.1 q.2.2.1 q.2.2.2.1 q.2.2.2.2) q) (eN x y i.2 k, sN x y s i.2, [], dot, live)) Du := fun k hk hks live => ih k hk (fine_kid hf hk) (NodeA.words_kid hw hk) (any_kid hu hk) hks (d + 1) dot live hdot
 generalize hG : (fun (i : Tw) (q : NodeA × List Bnd × List Api_PairA × Isochroneref11_dualA × Bool) => iter (i.1 - (d + 1)) (fun self q => r11_eval_body i.1 self q.1 q.2.1 q.2.2.1 q.2.2.2.1 q.2.2.2.2) q) = G
 have ih2 : ∀ k ∈ n.kids, sortS k.op = 1 → ∀ live, Ev κT (fun i => G i (eN x y i.2 k, sN x y s i.2, [], dot, live)) Du := by rw [← hG]; exact ih'
 show Ev κT (fun i => r11_eval_body i.1 ((fun (i : Tw) (q : NodeA × List Bnd × List Api_PairA × Isochroneref11_dualA × Bool) => iter (i.1 - (d + 1)) (fun self q => r11_eval_body i.1 self q.1 q.2.1 q.2.2.1 q.2.2.2.1 q.2.2.2.2) q) i) (eN x y i.2 n) (sN x y s i.2) [] dot live) Du
 rw [hG]
 clear hG ih' ih
 unfold r11_eval_body
 simp only [eN_op, eN_num, eN_kids]
 have hm := hdot.2.2
 have pl : ∀ {v : Isochroneref02_RatA}, Fr lim v → Ev κT (fun i => r11_plain i.1 v dot.most) Du := fun h => Ev.sub (plain_ev h hm)
 have numOf : ∀ {k : NodeA}, Fine k → k.words → k.op = 1 → Ev κT (fun i => r02_Of i.1 k.num) (Fr lim) := fun h1 h2 h3 => Ev.sub (ROf_ev (NodeA.words_num h2) (natS_vf (fine_num1 h1 h3)))
 have sm : ∀ {a b}, Du a → Du b → Ev κT (fun i => r11_sum i.1 a b) Du := fun h1 h2 => Ev.sub (sum_ev h1 h2)
 have pr : ∀ {a b}, Du a → Du b → Ev κT (fun i => r11_product i.1 a b) Du := fun h1 h2 => Ev.sub (product_ev h1 h2)
 have m1 : Ev κT (fun i => r02_Int i.1 (-1)) (Fr lim) := Ev.sub Int_m1
 have zz : Fr lim ⟨false, [1], [1]⟩ := Fr.one (by unfold lim; omega)
 have mem1 : ∀ {k}, n.kids = [k] → k ∈ n.kids := fun h => by rw [h]; exact List.mem_cons_self ..
 have mem2 : ∀ {k l}, n.kids = [k, l] → k ∈ n.kids ∧ l ∈ n.kids := fun h => by rw [h]; exact ⟨List.mem_cons_self .., List.mem_cons_of_mem _ (List.mem_cons_self ..)⟩
 rcases hop with h | h | h | h | h | h | h | h | h | h
 ·simp only [h, Int.reduceBEq, Bool.false_eq_true, if_false, if_true]
  exact Ev.bind (numOf hf hw h) fun r hr => Ev.bind (pl hr) fun r hr => Ev.ret hr
 ·have hv : varOp n.op = true := by rw [h]; decide
  have hn : nameB n.name = true := fine_name hf (varOp_named hv)
  simp only [h, Int.reduceBEq, Bool.false_eq_true, if_false, if_true]
  refine Ev.bind (look_ev c hv hn) fun v e => ?_
  subst e
  refine Ev.bind (gS_of c _) fun r hr => Ev.bind (pl hr) fun u hu => ?_
  refine Ev.bind (P := fun w => Fr lim w.v ∧ Fr lim w.d ∧ w.most ≤ 4096) ?_ fun w hw' => Ev.bind (Ev.sub (looked_ev hw'.1 hw'.2.1 hw'.2.2)) fun t ht => Ev.ret ht
  have l1 : (20000 : Nat) ≤ lim := by unfold lim; omega
  cases live with
  | false =>
   simp only [Bool.false_eq_true, if_false]
   exact Ev.ret ⟨hu.1.mono l1, hu.2.1.mono l1, hu.2.2⟩
  | true =>
   simp only [if_true, cat_tick c hv hn, Option.bind_some]
   refine Ev.bind (lookt_ev c hv hn) fun v e => ?_
   subst e
   exact Ev.bind (gS_of c _) fun r hr => Ev.ret ⟨hu.1.mono l1, hr, hu.2.2⟩
 ·have hv : varOp n.op = true := by rw [h]; decide
  have hn : nameB n.name = true := fine_name hf (varOp_named hv)
  simp only [h, Int.reduceBEq, Bool.false_eq_true, if_false, if_true, cat_tick c hv hn, Option.bind_some]
  refine Ev.bind (lookt_ev c hv hn) fun v e => ?_
  subst e
  exact Ev.bind (gS_of c _) fun r hr => Ev.bind (pl hr) fun u hu => Ev.ret hu
 ·obtain ⟨k, hk, hks⟩ := kids1 (kids_of hf ((sortsC_of h rfl rfl).trans (show _ = [1] from by decide +kernel)))
  simp only [h, hk, List.map_cons, List.map_nil, idx0, Option.bind_some, Int.reduceBEq, Bool.false_eq_true, if_false, if_true]
  exact Ev.bind m1 fun r hr => Ev.bind (pl hr) fun u hu => Ev.bind (ih2 k (mem1 hk) hks live) fun v hv => Ev.bind (pr hu hv) fun t ht => Ev.ret ht
 ·obtain ⟨k, l, hk, hks, hls⟩ := kids2 (kids_of hf ((sortsC_of h rfl rfl).trans (show _ = [1, 1] from by decide +kernel)))
  simp only [h, hk, List.map_cons, List.map_nil, idx0, idx1, Option.bind_some, Int.reduceBEq, Bool.false_eq_true, if_false, if_true]
  exact Ev.bind (ih2 k (mem2 hk).1 hks live) fun u hu => Ev.bind (ih2 l (mem2 hk).2 hls live) fun v hv => Ev.bind (sm hu hv) fun t ht => Ev.ret ht
 ·obtain ⟨k, l, hk, hks, hls⟩ := kids2 (kids_of hf ((sortsC_of h rfl rfl).trans (show _ = [1, 1] from by decide +kernel)))
  simp only [h, hk, List.map_cons, List.map_nil, idx0, idx1, Option.bind_some, Int.reduceBEq, Bool.false_eq_true, if_false, if_true]
  exact Ev.bind (ih2 k (mem2 hk).1 hks live) fun u hu => Ev.bind m1 fun r hr => Ev.bind (pl hr) fun w hw' => Ev.bind (ih2 l (mem2 hk).2 hls live) fun v hv => Ev.bind (pr hw' hv) fun t ht => Ev.bind (sm hu ht) fun t ht => Ev.ret ht
 ·obtain ⟨k, l, hk, hks, hls⟩ := kids2 (kids_of hf ((sortsC_of h rfl rfl).trans (show _ = [1, 1] from by decide +kernel)))
  simp only [h, hk, List.map_cons, List.map_nil, idx0, idx1, Option.bind_some, Int.reduceBEq, Bool.false_eq_true, if_false, if_true]
  exact Ev.bind (ih2 k (mem2 hk).1 hks live) fun u hu => Ev.bind (ih2 l (mem2 hk).2 hls live) fun v hv => Ev.bind (pr hu hv) fun t ht => Ev.ret ht
 ·obtain ⟨k, l, hk, hks, hls⟩ := kids2 (kids_of hf ((sortsC_of h rfl rfl).trans (show _ = [1, 1] from by decide +kernel)))
  have hl := fine_last hf
  unfold lastC at hl
  rw [if_pos (beq_iff_eq.2 h), hk] at hl
  have hl2 : l.op = 1 ∧ 0 < (l.num.num.length : Int) := by simpa using hl
  have lf := fine_kid hf (mem2 hk).2
  have lw := NodeA.words_kid hw (mem2 hk).2
  simp only [h, hk, List.map_cons, List.map_nil, idx0, idx1, eN_num, one_of, Option.bind_some, Int.reduceBEq, Bool.false_eq_true, if_false, if_true]
  have vf := natS_vf (fine_num1 lf hl2.1)
  have of2 : Ev κT (fun i => r02_Of i.1 l.num) (fun r => Fr 100000 r ∧ 0 < vl r.n) := by
   refine Ev.sub (f := fun K => r02_Of K l.num) ?_
   have w2 := NodeA.words_num lw
   obtain ⟨v1, v2, v3, v4, v5, v6⟩ := vf
   have lne : l.num.num ≠ [] := fun e => by have := hl2.2; rw [e] at this; simp at this
   unfold r02_Of
   refine Ev.bind (Of_ev w2.1 (by unfold lim; omega)) fun a ha => Ev.bind (Of_ev w2.2 (by unfold lim; omega)) fun b hb => Ev.ret ?_
   have ap := ha.2.2 lne v3
   exact ⟨⟨ha.1, hb.1, hb.2.2 v4 v5, fun e => by dsimp only at e; rw [e] at ap; simp [vl] at ap, by dsimp only; omega, by dsimp only; omega⟩, ap⟩
  refine Ev.bind of2 fun r hr => ?_
  refine Ev.bind (P := Fr lim) (Ev.sub (f := fun K => r02_Div K ⟨false, [1], [1]⟩ r) ?_) fun q hq => Ev.bind (pl hq) fun u hu => Ev.bind (ih2 k (mem2 hk).1 hks live) fun v hv => Ev.bind (pr hu hv) fun t ht => Ev.ret ht
  unfold r02_Div
  refine Ev.bind (RMul_ev (m := 100000) (Fr.one (by omega)) ⟨hr.1.2.1, hr.1.1, hr.2, fun e => ?_, hr.1.2.2.2.2.2, hr.1.2.2.2.2.1⟩ (by unfold lim; omega)) fun t ht => Ev.ret (ht.mono (by unfold lim; omega))
  have := hr.1.2.2.1; dsimp only at e; rw [e] at this; simp [vl] at this
 ·obtain ⟨k, l, hk, hks, hls⟩ := kids2 (kids_of hf ((sortsC_of h rfl rfl).trans (show _ = [1, 1] from by decide +kernel)))
  have hl := fine_last hf
  unfold lastC at hl
  rw [if_neg (by rw [h]; decide), if_pos (beq_iff_eq.2 h), hk] at hl
  simp only [List.getElem?_cons_succ, List.getElem?_cons_zero, Option.all_some, Bool.and_eq_true, beq_iff_eq] at hl
  obtain ⟨z, hz, hz20⟩ := Nat_ev (fine_num1 (fine_kid hf (mem2 hk).2) hl.1)
  simp only [h, hk, List.map_cons, List.map_nil, idx0, idx1, eN_num, one_of, hz, Option.bind_some, Int.reduceBEq, Bool.false_eq_true, if_false, if_true]
  refine Ev.bind (ih2 k (mem2 hk).1 hks live) fun u hu => Ev.bind (pl zz) fun w hw' => ?_
  refine Ev.bind (P := Du) ?_ fun t ht => Ev.ret ht
  refine Ev.iter (κ := κT) (fun q : Int × Isochroneref11_dualA => q.1 ≤ 20 ∧ Du q.2) (fun q => q.1.toNat) ?_ ⟨hz20, hw'.1, hw'.2.1, hw'.2.2⟩
  rintro ⟨q, o⟩ ⟨q1, q2⟩ G' hG'
  dsimp only at q1 q2 hG' ⊢
  by_cases hq : 0 < q
  ·simp only [ltT hq, if_true, Option.bind_some]
   cases ho : o.far with
   | true => simp only [Bool.not_true, Bool.false_eq_true, if_false, outM_eq, Option.bind_some, Out.fin_out]; exact Ev.ret q2
   | false =>
    simp only [Bool.not_false, if_true, Option.bind_some, Out.fin_go]
    refine Ev.bind (pr q2 hu) fun t ht => ?_
    rw [w64 (by omega) (by omega)]
    exact hG' _ ⟨by dsimp only; omega, ht⟩ (by dsimp only; omega)
  ·simp only [ltF (show q ≤ 0 by omega), Bool.false_eq_true, if_false, Option.bind_some, outM_eq, Out.fin_out]
   exact Ev.ret q2
 ·obtain ⟨k, hk, hks⟩ := kids1 (kids_of hf ((sortsC_of h rfl rfl).trans (show _ = [1] from by decide +kernel)))
  simp only [h, hk, List.map_cons, List.map_nil, idx0, Option.bind_some, Int.reduceBEq, Bool.false_eq_true, if_false, if_true]
  refine Ev.bind (ih2 k (mem1 hk) hks true) fun u hu => ?_
  cases hu' : u.far with
  | true => simp only [if_true]; exact Ev.ret hu
  | false =>
   simp only [Bool.false_eq_true, if_false]
   exact Ev.bind (pl (hu.2.1.mono (by unfold lim; omega))) fun t ht => Ev.ret ht
end
end Go.Proofs.YtphgabghcedphaaGreatDoor
