/- Part of the proof of a law: contracts of the functions that the law reaches, or plain laws of them, out of the abstract layer (the texts YtcgphoghmgeecaaIso..). No condition. -/
import Derived.Test.YtcgphoghmgeecaaLcheck
import Derived.Test.YtcgphoghmgeecaaPb
import Derived.Test.YtcgphoghmgeecaaIsoX
namespace Go.Proofs.Ytcgphoghmgeecaa
open Go Go.Iso Go.Proofs
set_option linter.unusedSimpArgs false
set_option linter.unusedVariables false
set_option maxRecDepth 100000

/-! ### Variables -/
def unpB (s : ByteArray) : ByteArray := if 0 < s.size ∧ s[s.size - 1]? = some 39 then s.extract 0 (s.size - 1) else s
def varB (s : ByteArray) : Bool := nameB (unpB s)
theorem byte39 (c : UInt8) : ((c.toNat : Int) == 39) = (c == 39) := by
  rw [Bool.eq_iff_iff, beq_iff_eq, beq_iff_eq, ← UInt8.toNat_inj]
  show _ ↔ c.toNat = 39
  omega
theorem static_variable_eq {K : Nat} {s : ByteArray} (hK : 12 < K) (hs : s.size < 9223372036854775807) : static_variable K s = some (varB s) := by
  unfold static_variable varB unpB
  by_cases h0 : s.size = 0
  · have e : decide ((0 : Int) < (s.size : Int)) = false := decide_eq_false (by omega)
    have e2 : ¬ (0 < s.size ∧ s[s.size - 1]? = some 39) := fun h => absurd h.1 (by omega)
    simp only [e, Bool.false_eq_true, if_false, Option.bind_some, if_neg e2, tree_Name_eq hK]
  · have e : decide ((0 : Int) < (s.size : Int)) = true := decide_eq_true (by omega)
    have ew : IntKind.wrap .i64 ((s.size : Int) - 1) = ((s.size - 1 : Nat) : Int) := by rw [w64 (by omega) (by omega)]; omega
    obtain ⟨h1, h2⟩ := strAt_get (s := s) (i := s.size - 1) (by omega)
    simp only [e, if_true, ew, h1, Option.bind_some, byte39]
    rw [h2]
    by_cases h3 : s[s.size - 1] = 39
    · have e3 : (s[s.size - 1] == 39) = true := by rw [h3]; rfl
      have e4 : cutStr s none (some ((s.size - 1 : Nat) : Int)) = some (s.extract 0 (s.size - 1)) := by
        unfold cutStr
        simp only [Option.getD_some, Option.getD_none]
        rw [if_pos (by omega)]; rfl
      rw [if_pos (show 0 < s.size ∧ some s[s.size - 1] = some 39 from ⟨by omega, by rw [h3]⟩)]
      simp only [e3, if_true, e4, Option.bind_some, tree_Name_eq hK]
    · have e3 : (s[s.size - 1] == 39) = false := beq_eq_false_iff_ne.2 h3
      rw [if_neg (show ¬ (0 < s.size ∧ some s[s.size - 1] = some 39) from fun h => h3 (Option.some.inj h.2))]
      simp only [e3, Bool.false_eq_true, if_false, Option.bind_some, tree_Name_eq hK]

/-! ### Sets -/
def topV : Nat := 1000000000000
/-- A tick. -/
abbrev tick : ByteArray := ⟨#[39]⟩
/-- Names, and with each one its prime. -/
structure Uni (V : List ByteArray) : Prop where
  siz : ∀ x ∈ V, x.size < 100
  top : V.length ≤ topV
  cls : ∀ x ∈ V, x[x.size - 1]? ≠ some 39 → x ++ tick ∈ V
structure Good (V : List ByteArray) (A : Api_NamesA) : Prop where
  sp : SP A.list
  var : ∀ x ∈ A.list, varB x = true
  sub : ∀ x ∈ A.list, x ∈ V
  uni : Uni V
theorem Good.len {V : List ByteArray} {A : Api_NamesA} (h : Good V A) : A.list.length ≤ V.length := nodup_len (sp_nodup h.sp) h.sub
theorem Good.lt {V : List ByteArray} {A : Api_NamesA} (h : Good V A) : A.list.length ≤ topV := Nat.le_trans h.len h.uni.top
theorem static_Valid_eq {K : Nat} {V : List ByteArray} {A : Api_NamesA} (h : Good V A) (hK : 12 < K) (hK2 : A.list.length < K) : static_Valid K A = some true := by
  unfold static_Valid
  have ht := h.lt
  unfold topV at ht
  refine ob _ (foldG A.list.length (fun i => (i : Int)) (.go ()) (fun g i hi => ?_) (fun g => ?_) hK2 rfl) rfl
  · have hx : A.list[i]? = some A.list[i] := List.getElem?_eq_getElem hi
    have hd : decide ((i : Int) < (A.list.length : Int)) = true := by simp; omega
    have hv := h.var _ (List.getElem_mem hi)
    simp only [hd, if_true, idx_nat, hx, Option.bind_some, static_variable_eq hK (Nat.lt_trans (h.uni.siz _ (h.sub _ (List.getElem_mem hi))) (by omega)), hv, Bool.not_true, Bool.false_eq_true, if_false]
    by_cases h0 : i = 0
    · subst h0
      rfl
    · have hd2 : decide ((0 : Int) < (i : Int)) = true := by simp; omega
      have ew : IntKind.wrap .i64 ((i : Int) - 1) = ((i - 1 : Nat) : Int) := by rw [w64 (by omega) (by omega)]; omega
      have hy : A.list[i - 1]? = some A.list[i - 1] := List.getElem?_eq_getElem (by omega)
      have hl : Op.bytesLess A.list[i - 1].toList A.list[i].toList = true := List.pairwise_iff_getElem.1 h.sp (i - 1) i (by omega) hi (by omega)
      simp only [hd2, if_true, ew, idx_nat, hy, Option.bind_some, hl, Bool.not_true, Bool.false_eq_true, if_false, Out.fin_go]
      rw [w64s (by omega)]
  · have hd : decide ((A.list.length : Int) < (A.list.length : Int)) = false := by simp
    simp only [hd, Bool.false_eq_true, if_false]

/-! ### Mixing -/
theorem appO_one {l : List ByteArray} {x : ByteArray} (h : l.length ≤ 4 * topV) : appO 16 l [x] = some (l ++ [x]) := by
  unfold appO topV at *
  rw [if_pos (by simp only [List.length_singleton]; omega)]
theorem static_mix_eq {K : Nat} {a b : List ByteArray} {l bo r : Bool} (ha : a.length ≤ topV) (hb : b.length ≤ topV) (hK : a.length + b.length < K) : static_mix K a b l bo r = some (mixS l bo r a b) := by
  unfold static_mix
  have ht : topV = 1000000000000 := rfl
  refine ob (mixS l bo r a b) ?_ rfl
  refine (iter_eq (S := Int × Int × List ByteArray) (R := List ByteArray) (fun s => some (s.2.2 ++ mixS l bo r (a.drop s.1.toNat) (b.drop s.2.1.toNat)))
    (fun s => ∃ i j : Nat, s.1 = i ∧ s.2.1 = j ∧ i ≤ a.length ∧ j ≤ b.length ∧ s.2.2.length ≤ i + j) (fun s => (a.length - s.1.toNat) + (b.length - s.2.1.toNat)) ?_ K (0, 0, []) ⟨0, 0, rfl, rfl, Nat.zero_le _, Nat.zero_le _, Nat.le_refl _⟩ (by simpa using hK)).trans ?_
  rotate_left
  · simp
  rintro ⟨z1, z2, out⟩ ⟨i, j, h1, h2, hi, hj, ho⟩ g hg
  simp only at h1 h2 ho
  subst h1 h2
  have hop : ∀ (c : Bool) (x : ByteArray) (m : List ByteArray), ∃ o2, (if c = true then (appO 16 out [x]).bind fun l25 => some l25 else some out) = some o2 ∧ o2 ++ m = out ++ ((if c = true then [x] else []) ++ m) ∧ o2.length ≤ out.length + 1 := by
    intro c x m
    cases c
    · exact ⟨out, by simp, by simp, by omega⟩
    · exact ⟨out ++ [x], by rw [if_pos rfl, appO_one (by omega)]; rfl, by simp, by simp⟩
  by_cases hi' : i < a.length
  · have d1 : decide ((i : Int) < (a.length : Int)) = true := by simp; omega
    have n1 : ((i : Int) == (a.length : Int)) = false := by simp; omega
    have hx : a[i]? = some a[i] := List.getElem?_eq_getElem hi'
    by_cases hj' : j < b.length
    · have n2 : ((j : Int) == (b.length : Int)) = false := by simp; omega
      have hy : b[j]? = some b[j] := List.getElem?_eq_getElem hj'
      simp only [d1, if_true, Option.bind_some, Out.fin_go, n2, Bool.false_eq_true, if_false, idx_nat, hx, hy, n1]
      simp only [Int.toNat_natCast]
      rw [List.drop_eq_getElem_cons hi', List.drop_eq_getElem_cons hj', mixS]
      cases e1 : Op.bytesLess a[i].toList b[j].toList with
      | true =>
        simp only [if_true]
        obtain ⟨o2, q1, q2, q3⟩ := hop l a[i] (mixS l bo r (a.drop (i + 1)) (b[j] :: b.drop (j + 1)))
        rw [q1]
        simp only [Option.bind_some]
        rw [w64s (by omega), hg _ ⟨i + 1, j, rfl, rfl, hi', hj, by simp only; omega⟩ (by simp only [Int.toNat_natCast]; omega)]
        simp only [Int.toNat_natCast]
        rw [if_pos (show ltS a[i] b[j] = true from e1), ← q2, ← List.drop_eq_getElem_cons hj']
      | false =>
        simp only [Bool.false_eq_true, if_false]
        rw [if_neg (show ¬ ltS a[i] b[j] = true by rw [show ltS a[i] b[j] = false from e1]; simp)]
        cases e2 : Op.bytesLess b[j].toList a[i].toList with
        | true =>
          simp only [if_true]
          obtain ⟨o2, q1, q2, q3⟩ := hop r b[j] (mixS l bo r (a[i] :: a.drop (i + 1)) (b.drop (j + 1)))
          rw [q1]
          simp only [Option.bind_some]
          rw [w64s (by omega), hg _ ⟨i, j + 1, rfl, rfl, hi, hj', by simp only; omega⟩ (by simp only [Int.toNat_natCast]; omega)]
          simp only [Int.toNat_natCast]
          rw [if_pos (show ltS b[j] a[i] = true from e2), ← q2, ← List.drop_eq_getElem_cons hi']
        | false =>
          simp only [Bool.false_eq_true, if_false]
          obtain ⟨o2, q1, q2, q3⟩ := hop bo a[i] (mixS l bo r (a.drop (i + 1)) (b.drop (j + 1)))
          rw [q1]
          simp only [Option.bind_some]
          rw [w64s (by omega), w64s (by omega), hg _ ⟨i + 1, j + 1, rfl, rfl, hi', hj', by simp only; omega⟩ (by simp only [Int.toNat_natCast]; omega)]
          simp only [Int.toNat_natCast]
          rw [if_neg (show ¬ ltS b[j] a[i] = true by rw [show ltS b[j] a[i] = false from e2]; simp), ← q2]
    · have hjb : j = b.length := by omega
      subst hjb
      have n2 : ((b.length : Int) == (b.length : Int)) = true := by simp
      simp only [d1, if_true, Option.bind_some, Out.fin_go, n2, idx_nat, hx]
      obtain ⟨o2, q1, q2, q3⟩ := hop l a[i] (mixS l bo r (a.drop (i + 1)) [])
      rw [q1]
      simp only [Option.bind_some]
      rw [w64s (by omega), hg _ ⟨i + 1, b.length, rfl, rfl, hi', hj, by simp only; omega⟩ (by simp only [Int.toNat_natCast]; omega)]
      simp only [Int.toNat_natCast, List.drop_length]
      rw [List.drop_eq_getElem_cons hi', mixS, ← q2]
  · have hia : i = a.length := by omega
    subst hia
    have d1 : decide ((a.length : Int) < (a.length : Int)) = false := by simp
    by_cases hj' : j < b.length
    · have d2 : decide ((j : Int) < (b.length : Int)) = true := by simp; omega
      have n1 : ((a.length : Int) == (a.length : Int)) = true := by simp
      have n2 : ((j : Int) == (b.length : Int)) = false := by simp; omega
      have hy : b[j]? = some b[j] := List.getElem?_eq_getElem hj'
      simp only [d1, d2, if_true, Bool.false_eq_true, if_false, Option.bind_some, Out.fin_go, n1, n2, idx_nat, hy]
      obtain ⟨o2, q1, q2, q3⟩ := hop r b[j] (mixS l bo r [] (b.drop (j + 1)))
      rw [q1]
      simp only [Option.bind_some]
      rw [w64s (by omega), hg _ ⟨a.length, j + 1, rfl, rfl, hi, hj', by simp only; omega⟩ (by simp only [Int.toNat_natCast]; omega)]
      simp only [Int.toNat_natCast, List.drop_length]
      rw [List.drop_eq_getElem_cons hj', mixS, ← q2]
    · have hjb : j = b.length := by omega
      subst hjb
      have d2 : decide ((b.length : Int) < (b.length : Int)) = false := by simp
      simp only [d1, d2, Bool.false_eq_true, if_false, Option.bind_some, outM_eq, Out.fin_out, Int.toNat_natCast, List.drop_length]
      rw [mixS]; simp

/-! ### The operations -/
def unionS (a b : Api_NamesA) : Api_NamesA :=
  if a.all = true then (if b.all = true then ⟨true, mixS false true false a.list b.list⟩ else ⟨true, mixS true false false a.list b.list⟩)
  else if b.all = true then ⟨true, mixS false false true a.list b.list⟩ else ⟨false, mixS true true true a.list b.list⟩
def notS (a : Api_NamesA) : Api_NamesA := ⟨!a.all, a.list⟩
def meetS (a b : Api_NamesA) : Api_NamesA := notS (unionS (notS a) (notS b))
def minusS (a b : Api_NamesA) : Api_NamesA := meetS a (notS b)
def KOk (V : List ByteArray) (K : Nat) : Prop := 12 < K ∧ 2 * V.length < K
section
variable {V : List ByteArray} {A B : Api_NamesA} {K : Nat}
theorem static_union_eq (ha : Good V A) (hb : Good V B) (hK : KOk V K) : static_union K A B = some (unionS A B) := by
  have h1 := ha.len
  have h2 := hb.len
  have hm : ∀ l bo r, static_mix K A.list B.list l bo r = some (mixS l bo r A.list B.list) := fun l bo r => static_mix_eq ha.lt hb.lt (by have := hK.2; omega)
  unfold static_union unionS
  simp only [hm, Option.bind_some]
  cases A.all <;> cases B.all <;> rfl
theorem good_mix (ha : Good V A) (hb : Good V B) (x l bo r : Bool) : Good V ⟨x, mixS l bo r A.list B.list⟩ :=
  ⟨sp_mix ha.sp hb.sp, fun y hy => (sub_mix ha.sp hb.sp hy).elim (ha.var y) (hb.var y), fun y hy => (sub_mix ha.sp hb.sp hy).elim (ha.sub y) (hb.sub y), ha.uni⟩
theorem good_union (ha : Good V A) (hb : Good V B) : Good V (unionS A B) := by
  unfold unionS; split <;> split <;> exact good_mix ha hb _ _ _ _
theorem good_not (ha : Good V A) : Good V (notS A) := ⟨ha.sp, ha.var, ha.sub, ha.uni⟩
theorem good_meet (ha : Good V A) (hb : Good V B) : Good V (meetS A B) := good_not (good_union (good_not ha) (good_not hb))
theorem good_minus (ha : Good V A) (hb : Good V B) : Good V (minusS A B) := good_meet ha (good_not hb)
theorem static_meet_eq (ha : Good V A) (hb : Good V B) (hK : KOk V K) : static_meet K A B = some (meetS A B) := by
  unfold static_meet static_not
  simp only [Option.bind_some]
  exact ob _ (static_union_eq (good_not ha) (good_not hb) hK) rfl
theorem static_minus_eq (ha : Good V A) (hb : Good V B) (hK : KOk V K) : static_minus K A B = some (minusS A B) := by
  unfold static_minus static_not
  simp only [Option.bind_some]
  exact ob _ (static_meet_eq ha (good_not hb) hK) rfl
theorem appO_nil {l : List ByteArray} (h : l.length ≤ topV) : appO 16 [] l = some l := by
  unfold appO topV at *
  rw [if_pos (by simp only [List.length_nil]; omega)]; rfl
theorem static_Union_eq (ha : Good V A) (hb : Good V B) (hK : KOk V K) : static_Union K A B = some (unionS A B, 0) := by
  have h1 := ha.len
  have h2 := hb.len
  have hg := good_union ha hb
  unfold static_Union static_two_static_union
  simp only [static_Valid_eq ha hK.1 (show A.list.length < K by have := hK.2; omega), static_Valid_eq hb hK.1 (show B.list.length < K by have := hK.2; omega), Option.bind_some, Bool.not_true, Bool.false_eq_true, if_false, Out.fin_go, static_union_eq ha hb hK, appO_nil hg.lt]
theorem static_Minus_eq (ha : Good V A) (hb : Good V B) (hK : KOk V K) : static_Minus K A B = some (minusS A B, 0) := by
  have h1 := ha.len
  have h2 := hb.len
  have hg := good_minus ha hb
  unfold static_Minus static_two_static_minus
  simp only [static_Valid_eq ha hK.1 (show A.list.length < K by have := hK.2; omega), static_Valid_eq hb hK.1 (show B.list.length < K by have := hK.2; omega), Option.bind_some, Bool.not_true, Bool.false_eq_true, if_false, Out.fin_go, static_minus_eq ha hb hK, appO_nil hg.lt]
theorem good_one {x : ByteArray} (hV : Uni V) (hx : varB x = true) (hm : x ∈ V) : Good V ⟨false, [x]⟩ :=
  ⟨by simp, fun y hy => by rw [List.mem_singleton] at hy; rw [hy]; exact hx, fun y hy => by rw [List.mem_singleton] at hy; rw [hy]; exact hm, hV⟩
theorem good_none (hV : Uni V) (x : Bool) : Good V ⟨x, []⟩ := ⟨by simp, fun y hy => (by cases hy), fun y hy => (by cases hy), hV⟩

/-! ### Members -/
noncomputable def inS (s : Api_NamesA) (v : ByteArray) : Bool := pB (v ∈ s.list) != s.all
theorem union_all {a b : Api_NamesA} : (unionS a b).all = (a.all || b.all) := by
  unfold unionS; cases a.all <;> cases b.all <;> rfl
theorem union_in (ha : Good V A) (hb : Good V B) (v : ByteArray) : inS (unionS A B) v = (inS A v || inS B v) := by
  have key : ∀ l bo r, pB (v ∈ mixS l bo r A.list B.list) = ((pB (v ∈ A.list) && !pB (v ∈ B.list) && l) || (pB (v ∈ A.list) && pB (v ∈ B.list) && bo) || (!pB (v ∈ A.list) && pB (v ∈ B.list) && r)) := fun l bo r => by
    rw [Bool.eq_iff_iff, pB_true, mem_mix ha.sp hb.sp]
    by_cases h1 : v ∈ A.list <;> by_cases h2 : v ∈ B.list <;> simp [h1, h2, pB_true.2 h1, pB_true.2 h2, pB_false.2, pB]
  unfold inS unionS
  cases h1 : A.all <;> cases h2 : B.all <;> simp only [Bool.false_eq_true, if_true, if_false, key] <;> cases pB (v ∈ A.list) <;> cases pB (v ∈ B.list) <;> rfl
theorem not_in {s : Api_NamesA} (v : ByteArray) : inS (notS s) v = !inS s v := by
  unfold inS notS; cases pB (v ∈ s.list) <;> cases s.all <;> rfl
theorem meet_all {a b : Api_NamesA} : (meetS a b).all = (a.all && b.all) := by
  show (!(unionS (notS a) (notS b)).all) = _
  rw [union_all]; simp only [notS]; cases a.all <;> cases b.all <;> rfl
theorem meet_in (ha : Good V A) (hb : Good V B) (v : ByteArray) : inS (meetS A B) v = (inS A v && inS B v) := by
  rw [meetS, not_in, union_in (good_not ha) (good_not hb), not_in, not_in]
  cases inS A v <;> cases inS B v <;> rfl
theorem minus_all {a b : Api_NamesA} : (minusS a b).all = (a.all && !b.all) := by rw [minusS, meet_all]; rfl
theorem minus_in (ha : Good V A) (hb : Good V B) (v : ByteArray) : inS (minusS A B) v = (inS A v && !inS B v) := by
  rw [minusS, meet_in ha (good_not hb), not_in]
theorem empty_in {s : Api_NamesA} (h : s.all = false) (hv : ∀ v, inS s v = false) : s.list = [] :=
  List.eq_nil_iff_forall_not_mem.2 fun x hx => by
    have := hv x
    unfold inS at this
    rw [h, pB_true.2 hx] at this; cases this
theorem none_union (hb : Good V B) : unionS ⟨false, []⟩ B = B := by
  have h : ∀ l bo, ∀ b : List ByteArray, mixS l bo true [] b = b := by
    intro l bo b
    induction b with
    | nil => rw [mixS]
    | cons x b ih => rw [mixS, if_pos rfl, ih]; rfl
  obtain ⟨al, l⟩ := B
  unfold unionS
  cases al <;> simp [h]
/-- Inclusion. -/
def SubS (A B : Api_NamesA) : Prop := A.all = false ∧ ∀ v, inS A v = true → inS B v = true
theorem sub_empty (ha : Good V A) (hb : Good V B) (h : SubS A B) : minusS A B = ⟨false, []⟩ := by
  have h1 : (minusS A B).all = false := by rw [minus_all, h.1]; rfl
  have h2 := empty_in h1 fun v => by
    rw [minus_in ha hb]
    cases e : inS A v with
    | false => rfl
    | true => rw [h.2 v e]; rfl
  generalize minusS A B = C at h1 h2
  obtain ⟨c, l⟩ := C
  simp only at h1 h2
  rw [h1, h2]
theorem in_none (v : ByteArray) : inS ⟨false, []⟩ v = false := by unfold inS; rw [pB_false.2 (by simp)]; rfl
end

/-! ### Primes -/
theorem tick_size {x : ByteArray} : (x ++ tick).size = x.size + 1 := by simp [ByteArray.size_append]; rfl
theorem tick_last {x : ByteArray} : (x ++ tick)[(x ++ tick).size - 1]? = some 39 := by
  rw [tick_size, getElem?_pos (x ++ tick) (x.size + 1 - 1) (by rw [tick_size]; omega)]
  congr 1
  simp only [Nat.add_sub_cancel]
  rw [ByteArray.getElem_append_right (by omega)]
  simp only [Nat.sub_self]
  rfl
theorem tick_cut {x : ByteArray} : (x ++ tick).extract 0 ((x ++ tick).size - 1) = x := by
  rw [tick_size, Nat.add_sub_cancel]
  apply toList_inj
  rw [bytes_toList, bytes_toList]
  have e : x.data.toList.length = x.size := rfl
  rw [ByteArray.data_extract, ByteArray.data_append, Array.toList_extract, Array.toList_append, List.extract_eq_take_drop, List.drop_zero, Nat.sub_zero, ← e, List.take_left']
  rfl
theorem unp_tick {x : ByteArray} : unpB (x ++ tick) = x := by
  unfold unpB
  rw [if_pos ⟨by rw [tick_size]; omega, tick_last⟩, tick_cut]
theorem tick_inj {x y : ByteArray} (h : x ++ tick = y ++ tick) : x = y := by
  have := congrArg unpB h; rwa [unp_tick, unp_tick] at this
theorem name_size {x : ByteArray} (h : nameB x = true) : 0 < x.size ∧ x.size ≤ 12 := by
  unfold nameB at h
  simp only [Bool.and_eq_true, Bool.not_eq_true', Bool.or_eq_false_iff] at h
  obtain ⟨⟨h1, h2, _⟩, _⟩ := h
  have h1 : (x.size : Int) ≠ 0 := by simpa using h1
  have h2 : ¬ (12 : Int) < (x.size : Int) := of_decide_eq_false h2
  omega
theorem catO_tick {x : ByteArray} (h : x.size < 100) : catO x tick = some (x ++ tick) := by
  unfold catO
  rw [if_pos]
  have : tick.size = 1 := rfl
  rw [this]
  have : IntKind.i64.max = 9223372036854775807 := by decide
  rw [this]; omega
/-- What is primed. -/
def primL (l : List ByteArray) : List ByteArray := (l.filter fun x => !(x[x.size - 1]? == some 39)).map (· ++ tick)
theorem static_primes_ex {V : List ByteArray} {A : Api_NamesA} (ha : Good V A) : ∃ F, Good V F ∧ ∀ K, KOk V K → static_primes K A = some F := by
  by_cases hA : A.all = true
  · refine ⟨⟨true, []⟩, good_none ha.uni true, fun K hK => ?_⟩
    unfold static_primes static_everything
    rw [hA]; rfl
  · have hA : A.all = false := by simpa using hA
    have hlen := ha.len
    have htop := ha.lt
    have ht : topV = 1000000000000 := rfl
    have hpl : ∀ l : List ByteArray, (primL l).length ≤ l.length := fun l => by unfold primL; rw [List.length_map]; exact List.length_filter_le _ _
    have hnp : ∀ x ∈ A.list, x[x.size - 1]? ≠ some 39 → nameB x = true := fun x hx h => by
      have := ha.var x hx
      unfold varB unpB at this
      rwa [if_neg (fun h2 => h h2.2)] at this
    have hgp : Good V ⟨false, sortB (primL A.list)⟩ := by
      refine ⟨sp_sort (nodup_map (fun x y e => tick_inj e) ((sp_nodup ha.sp).filter _)), fun y hy => ?_, fun y hy => ?_, ha.uni⟩
      all_goals
        rw [mem_sortB] at hy
        unfold primL at hy
        simp only [List.mem_map, List.mem_filter, Bool.not_eq_true', beq_eq_false_iff_ne] at hy
        obtain ⟨x, ⟨h1, h2⟩, rfl⟩ := hy
      · unfold varB; rw [unp_tick]; exact hnp x h1 h2
      · exact ha.uni.cls x (ha.sub x h1) h2
    refine ⟨unionS A ⟨false, sortB (primL A.list)⟩, good_union ha hgp, fun K hK => ?_⟩
    have hso : sortO (primL A.list) = some (sortB (primL A.list)) := by
      unfold sortO; rw [if_pos (by have := hpl A.list; omega)]
    unfold static_primes
    rw [hA]
    simp only [Bool.false_eq_true, if_false]
    refine ob (primL A.list) ?_ ?_
    · refine foldG A.list.length (fun i => ((i : Int), primL (A.list.take i))) (primL A.list) (fun g i hi => ?_) (fun g => ?_) (by have := hK.2; omega) rfl
      · have hx : A.list[i]? = some A.list[i] := List.getElem?_eq_getElem hi
        have hm := List.getElem_mem hi
        have hd : decide ((i : Int) < (A.list.length : Int)) = true := decide_eq_true (by omega)
        have hsz : 0 < A.list[i].size := by
          apply Nat.pos_of_ne_zero
          intro h0
          have hv := ha.var _ hm
          unfold varB unpB at hv
          rw [if_neg (fun h => by omega)] at hv
          have := (name_size hv).1
          omega
        have h100 := ha.uni.siz _ (ha.sub _ hm)
        have ew : IntKind.wrap .i64 ((A.list[i].size : Int) - 1) = ((A.list[i].size - 1 : Nat) : Int) := by rw [w64 (by omega) (by omega)]; omega
        obtain ⟨h1, h2⟩ := strAt_get (s := A.list[i]) (i := A.list[i].size - 1) (by omega)
        have hlp : (primL (A.list.take i)).length ≤ topV := by have := hpl (A.list.take i); rw [List.length_take] at this; omega
        have et : A.list.take (i + 1) = A.list.take i ++ [A.list[i]] := by rw [List.take_add_one, hx]; rfl
        have ep : primL (A.list.take (i + 1)) = if A.list[i][A.list[i].size - 1]? = some 39 then primL (A.list.take i) else primL (A.list.take i) ++ [A.list[i] ++ tick] := by
          rw [et]
          unfold primL
          rw [List.filter_append, List.map_append]
          by_cases h : A.list[i][A.list[i].size - 1]? = some 39
          · rw [if_pos h, List.filter_cons_of_neg (by rw [h]; simp)]; simp
          · rw [if_neg h, List.filter_cons_of_pos (by simp [h])]; simp
        rw [ep]
        simp only [hd, if_true, idx_nat, hx, Option.bind_some, ew, h1, catO_tick h100, appO_one (show (primL (A.list.take i)).length ≤ 4 * topV by omega)]
        rw [h2, w64s (by omega)]
        by_cases h39 : A.list[i][A.list[i].size - 1] = 39
        · have e : ((A.list[i][A.list[i].size - 1].toNat : Int) != 39) = false := by rw [bne, byte39, h39]; rfl
          rw [e, h39]; rfl
        · have e : ((A.list[i][A.list[i].size - 1].toNat : Int) != 39) = true := by rw [bne, byte39, beq_eq_false_iff_ne.2 h39]; rfl
          rw [e, if_neg (show ¬ some A.list[i][A.list[i].size - 1] = some 39 from fun h => h39 (Option.some.inj h))]; rfl
      · have hd : decide ((A.list.length : Int) < (A.list.length : Int)) = false := by simp
        simp only [hd, Bool.false_eq_true, if_false, List.take_length]
    · rw [hso]
      exact ob _ rfl (ob _ (static_union_eq ha hgp hK) rfl)
end Go.Proofs.Ytcgphoghmgeecaa
