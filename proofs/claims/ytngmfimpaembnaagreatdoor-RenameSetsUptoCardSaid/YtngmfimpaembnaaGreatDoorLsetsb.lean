/- Part of the proof of a law: contracts of the functions that the law reaches, or plain laws of them, out of the abstract layer (the texts YtngmfimpaembnaaGreatDoorIso..). No condition. -/
import Derived.Test.YtngmfimpaembnaaGreatDoorLcheck
import Derived.Test.YtngmfimpaembnaaGreatDoorPd
import Derived.Test.YtngmfimpaembnaaGreatDoorIsoX
namespace Go.Proofs.YtngmfimpaembnaaGreatDoor
open Go Go.Iso Go.Proofs
set_option linter.unusedSimpArgs false
set_option linter.unusedVariables false
set_option maxRecDepth 100000
/-! ### Variables -/
def unpB (s : ByteArray) : ByteArray := if 0 < s.size ∧ s[s.size - 1]? = some 39 then s.extract 0 (s.size - 1) else s
def varB (s : ByteArray) : Bool := nameB (unpB s)
theorem byte39 (c : UInt8) : ((c.toNat : Int) == 39) = (c == 39) := by
  rw [Bool.eq_iff_iff, beq_iff_eq, beq_iff_eq, ← UInt8.toNat_inj]
  show _ ↔ c.toNat = 39
  omega
/-! ### Sets -/
def topV : Nat := 1000000000000
abbrev tick : ByteArray := ⟨#[39]⟩
structure Uni (V : List ByteArray) : Prop where
  siz : ∀ x ∈ V, x.size < 100
  top : V.length ≤ topV
  cls : ∀ x ∈ V, x[x.size - 1]? ≠ some 39 → x ++ tick ∈ V
structure Good (V : List ByteArray) (A : Api_NamesA) : Prop where
  sp : SP A.list
  var : ∀ x ∈ A.list, varB x = true
  sub : ∀ x ∈ A.list, x ∈ V
  uni : Uni V
theorem Good.len {V : List ByteArray} {A : Api_NamesA} (h : Good V A) : A.list.length ≤ V.length := nodup_len (sp_nodup h.sp) h.sub
theorem Good.lt {V : List ByteArray} {A : Api_NamesA} (h : Good V A) : A.list.length ≤ topV := Nat.le_trans h.len h.uni.top
/-! ### Mixing -/
theorem appO_one {l : List ByteArray} {x : ByteArray} (h : l.length ≤ 4 * topV) : appO 16 l [x] = some (l ++ [x]) := by
  unfold appO topV at *
  rw [if_pos (by simp only [List.length_singleton]; omega)]
/-! ### The operations -/
def unionS (a b : Api_NamesA) : Api_NamesA :=
  if a.all = true then (if b.all = true then ⟨true, mixS false true false a.list b.list⟩ else ⟨true, mixS true false false a.list b.list⟩)
  else if b.all = true then ⟨true, mixS false false true a.list b.list⟩ else ⟨false, mixS true true true a.list b.list⟩
def notS (a : Api_NamesA) : Api_NamesA := ⟨!a.all, a.list⟩
def meetS (a b : Api_NamesA) : Api_NamesA := notS (unionS (notS a) (notS b))
def minusS (a b : Api_NamesA) : Api_NamesA := meetS a (notS b)
def KOk (V : List ByteArray) (K : Nat) : Prop := 12 < K ∧ 2 * V.length < K
section
variable {V : List ByteArray} {A B : Api_NamesA} {K : Nat}
theorem good_mix (ha : Good V A) (hb : Good V B) (x l bo r : Bool) : Good V ⟨x, mixS l bo r A.list B.list⟩ :=
  ⟨sp_mix ha.sp hb.sp, fun y hy => (sub_mix ha.sp hb.sp hy).elim (ha.var y) (hb.var y), fun y hy => (sub_mix ha.sp hb.sp hy).elim (ha.sub y) (hb.sub y), ha.uni⟩
theorem good_union (ha : Good V A) (hb : Good V B) : Good V (unionS A B) := by
  unfold unionS; split <;> split <;> exact good_mix ha hb _ _ _ _
theorem good_not (ha : Good V A) : Good V (notS A) := ⟨ha.sp, ha.var, ha.sub, ha.uni⟩
theorem good_meet (ha : Good V A) (hb : Good V B) : Good V (meetS A B) := good_not (good_union (good_not ha) (good_not hb))
theorem good_minus (ha : Good V A) (hb : Good V B) : Good V (minusS A B) := good_meet ha (good_not hb)
theorem good_one {x : ByteArray} (hV : Uni V) (hx : varB x = true) (hm : x ∈ V) : Good V ⟨false, [x]⟩ :=
  ⟨by simp, fun y hy => by rw [List.mem_singleton] at hy; rw [hy]; exact hx, fun y hy => by rw [List.mem_singleton] at hy; rw [hy]; exact hm, hV⟩
theorem good_none (hV : Uni V) (x : Bool) : Good V ⟨x, []⟩ := ⟨by simp, fun y hy => (by cases hy), fun y hy => (by cases hy), hV⟩
/-! ### Members -/
noncomputable def inS (s : Api_NamesA) (v : ByteArray) : Bool := pB (v ∈ s.list) != s.all
theorem union_all {a b : Api_NamesA} : (unionS a b).all = (a.all || b.all) := by
  unfold unionS; cases a.all <;> cases b.all <;> rfl
theorem union_in (ha : Good V A) (hb : Good V B) (v : ByteArray) : inS (unionS A B) v = (inS A v || inS B v) := by
  have key : ∀ l bo r, pB (v ∈ mixS l bo r A.list B.list) = ((pB (v ∈ A.list) && !pB (v ∈ B.list) && l) || (pB (v ∈ A.list) && pB (v ∈ B.list) && bo) || (!pB (v ∈ A.list) && pB (v ∈ B.list) && r)) := fun l bo r => by
    rw [Bool.eq_iff_iff, pB_true, mem_mix ha.sp hb.sp]
    by_cases h1 : v ∈ A.list <;> by_cases h2 : v ∈ B.list <;> simp [h1, h2, pB_true.2 h1, pB_true.2 h2, pB_false.2, pB]
  unfold inS unionS
  cases h1 : A.all <;> cases h2 : B.all <;> simp only [Bool.false_eq_true, if_true, if_false, key] <;> cases pB (v ∈ A.list) <;> cases pB (v ∈ B.list) <;> rfl
end
/-! ### Primes -/
theorem tick_size {x : ByteArray} : (x ++ tick).size = x.size + 1 := by simp [ByteArray.size_append]; rfl
theorem tick_last {x : ByteArray} : (x ++ tick)[(x ++ tick).size - 1]? = some 39 := by
  rw [tick_size, getElem?_pos (x ++ tick) (x.size + 1 - 1) (by rw [tick_size]; omega)]
  congr 1
  simp only [Nat.add_sub_cancel]
  rw [ByteArray.getElem_append_right (by omega)]
  simp only [Nat.sub_self]
  rfl
theorem tick_cut {x : ByteArray} : (x ++ tick).extract 0 ((x ++ tick).size - 1) = x := by
  rw [tick_size, Nat.add_sub_cancel]
  apply toList_inj
  rw [bytes_toList, bytes_toList]
  have e : x.data.toList.length = x.size := rfl
  rw [ByteArray.data_extract, ByteArray.data_append, Array.toList_extract, Array.toList_append, List.extract_eq_take_drop, List.drop_zero, Nat.sub_zero, ← e, List.take_left']
  rfl
theorem unp_tick {x : ByteArray} : unpB (x ++ tick) = x := by
  unfold unpB
  rw [if_pos ⟨by rw [tick_size]; omega, tick_last⟩, tick_cut]
theorem tick_inj {x y : ByteArray} (h : x ++ tick = y ++ tick) : x = y := by
  have := congrArg unpB h; rwa [unp_tick, unp_tick] at this
theorem name_size {x : ByteArray} (h : nameB x = true) : 0 < x.size ∧ x.size ≤ 12 := by
  unfold nameB at h
  simp only [Bool.and_eq_true, Bool.not_eq_true', Bool.or_eq_false_iff] at h
  obtain ⟨⟨h1, h2, _⟩, _⟩ := h
  have h1 : (x.size : Int) ≠ 0 := by simpa using h1
  have h2 : ¬ (12 : Int) < (x.size : Int) := of_decide_eq_false h2
  omega
theorem catO_tick {x : ByteArray} (h : x.size < 100) : catO x tick = some (x ++ tick) := by
  unfold catO
  rw [if_pos]
  have : tick.size = 1 := rfl
  rw [this]
  have : IntKind.i64.max = 9223372036854775807 := by decide
  rw [this]; omega
end Go.Proofs.YtngmfimpaembnaaGreatDoor
