/- Part of the proof of a law: contracts of the functions that the law reaches, or plain laws of them, out of the abstract layer (the texts YtngmfimpaembnaaGreatDoorIso..). No condition. -/
import Derived.Test.YtngmfimpaembnaaGreatDoorLren
import Derived.Test.YtngmfimpaembnaaGreatDoorLnames
import Derived.Test.YtngmfimpaembnaaGreatDoorPd
namespace Go.Proofs.YtngmfimpaembnaaGreatDoor
open Go Go.Iso Go.Proofs
set_option linter.unusedSimpArgs false
set_option linter.unusedVariables false
set_option maxRecDepth 100000
/-! ### The reference's sets -/
theorem good_ext {V : List ByteArray} {A B : Api_NamesA} (ha : Good V A) (hb : Good V B) (h1 : A.all = B.all) (h2 : ∀ v, inS A v = inS B v) : A = B := by
  obtain ⟨a, l⟩ := A
  obtain ⟨b, m⟩ := B
  simp only at h1
  subst h1
  have : l = m := ext_sp ha.sp hb.sp fun x => by
    have h := h2 x
    unfold inS at h
    have h' : pB (x ∈ l) = pB (x ∈ m) := by
      simp only at h
      revert h
      cases pB (x ∈ l) <;> cases pB (x ∈ m) <;> cases a <;> simp
    exact ⟨fun k => pB_true.1 (h' ▸ pB_true.2 k), fun k => pB_true.1 (h'.symm ▸ pB_true.2 k)⟩
  rw [this]
theorem sp_filter {l : List ByteArray} {q : ByteArray → Bool} (h : SP l) : SP (l.filter q) := List.Pairwise.filter q h
theorem listed_eq {K : Nat} {l : List ByteArray} {v : ByteArray} (hl : l.length < K) (hb : l.length ≤ big) : r10_listed K l v = some (pB (v ∈ l)) := by
  unfold r10_listed
  refine ob _ (scan_any (l := l) (q := fun x => x.toList == v.toList) hl hb (fun g i x hx => ?_) fun g i hi => ?_) ?_
  · obtain ⟨hlt, rfl⟩ := List.getElem?_eq_some_iff.1 hx
    simp only [lt_tn hlt, if_true, idx_nat, hx, Option.bind_some, outM_eq]
  · simp only [lt_fn hi, Bool.false_eq_true, if_false]
  · have e : l.any (fun x => x.toList == v.toList) = pB (v ∈ l) := by
      rw [Bool.eq_iff_iff, pB_true, List.any_eq_true]
      exact ⟨fun ⟨x, hx, h⟩ => eqB.1 h ▸ hx, fun h => ⟨v, h, eqB.2 rfl⟩⟩
    rw [e]
    cases pB (v ∈ l) <;> rfl
theorem kept_eq {K : Nat} {a b : List ByteArray} {c : Bool} (ha : a.length < K) (hb : b.length < K) (hab : a.length ≤ topV) (hbb : b.length ≤ topV) : r10_kept K a b c = some (a.filter fun x => pB (x ∈ b) == c) := by
  have ht : topV = 1000000000000 := rfl
  unfold r10_kept
  refine ob _ (foldG a.length (fun i => ((i : Int), (a.take i).filter fun x => pB (x ∈ b) == c)) (a.filter fun x => pB (x ∈ b) == c) (fun g i hi => ?_) (fun g => ?_) ha rfl) rfl
  · have hx : a[i]? = some a[i] := List.getElem?_eq_getElem hi
    have et : a.take (i + 1) = a.take i ++ [a[i]] := by rw [List.take_add_one, hx]; rfl
    have hl : ((a.take i).filter fun x => pB (x ∈ b) == c).length ≤ 4 * topV := by
      have := List.length_filter_le (fun x => pB (x ∈ b) == c) (a.take i); rw [List.length_take] at this; omega
    simp only [lt_tn hi, if_true, idx_nat, hx, Option.bind_some, listed_eq (v := a[i]) hb (show b.length ≤ big by unfold big; omega), appO_one hl]
    rw [w64s (by omega), et, List.filter_append]
    cases h : pB (a[i] ∈ b) == c with
    | true => simp only [if_true, Option.bind_some, List.filter_cons, h, List.filter_nil]
    | false => simp only [Bool.false_eq_true, if_false, Option.bind_some, List.filter_cons, h, List.filter_nil, List.append_nil]
  · simp only [lt_fn (Nat.le_refl a.length), Bool.false_eq_true, if_false, List.take_length]
def wiS (v : ByteArray) : List ByteArray → List ByteArray
  | [] => [v]
  | x :: l => if ltS x v = true then x :: wiS v l else v :: ((x :: l).filter fun z => !(z.toList == v.toList))
theorem mem_wiS {v x : ByteArray} : ∀ {l : List ByteArray}, x ∈ wiS v l ↔ x = v ∨ x ∈ l
  | [] => by simp [wiS]
  | z :: l => by
    unfold wiS
    split
    · rw [List.mem_cons, mem_wiS, List.mem_cons]
      constructor
      · rintro (h | h | h)
        · exact .inr (.inl h)
        · exact .inl h
        · exact .inr (.inr h)
      · rintro (h | h | h)
        · exact .inr (.inl h)
        · exact .inl h
        · exact .inr (.inr h)
    · rw [List.mem_cons, List.mem_filter]
      by_cases e : x = v
      · simp [e]
      · simp [e, neB e]
theorem sp_wiS {v : ByteArray} : ∀ {l : List ByteArray}, SP l → SP (wiS v l)
  | [], _ => by simp [wiS]
  | z :: l, h => by
    obtain ⟨h1, h2⟩ := List.pairwise_cons.1 h
    unfold wiS
    split
    · next hz =>
      refine List.pairwise_cons.2 ⟨fun y hy => ?_, sp_wiS h2⟩
      rcases mem_wiS.1 hy with rfl | hy
      · exact hz
      · exact h1 y hy
    · next hz =>
      refine List.pairwise_cons.2 ⟨fun y hy => ?_, sp_filter h⟩
      obtain ⟨hy1, hy2⟩ := List.mem_filter.1 hy
      have hne : y ≠ v := fun e => by subst e; rw [eqB.2 rfl] at hy2; simp at hy2
      have hvz : v = z ∨ ltS v z = true := by
        rcases lt_total z v with k | k | k
        · exact absurd k hz
        · exact .inl k.symm
        · exact .inr k
      rcases List.mem_cons.1 hy1 with e | hy1
      · rw [e] at hne ⊢; exact hvz.resolve_left fun e => hne e.symm
      · have hl := h1 y hy1
        rcases hvz with e | hvz
        · rw [e]; exact hl
        · exact lt_trans' hvz hl
theorem wiS_len {v : ByteArray} : ∀ {l : List ByteArray}, (wiS v l).length ≤ l.length + 1
  | [] => by simp [wiS]
  | z :: l => by
    unfold wiS
    split
    · have := wiS_len (v := v) (l := l); simp; omega
    · have := List.length_filter_le (fun z => !(z.toList == v.toList)) (z :: l); simp at this ⊢; omega
def wiR (v : ByteArray) (put : Bool) (l : List ByteArray) : Bool × List ByteArray := if put then (true, l.filter fun z => !(z.toList == v.toList)) else
  if l.all fun z => ltS z v then (false, l) else (true, wiS v l)
theorem with_eq {K : Nat} {l : List ByteArray} {v : ByteArray} (hs : SP l) (hl : l.length < K) (hb : l.length ≤ 2 * topV) : r10_with K l v = some (wiS v l) := by
  have ht : topV = 1000000000000 := rfl
  have hend : ∀ l : List ByteArray, (l.all fun z => ltS z v) = true → wiS v l = l ++ [v] := by
    intro l
    induction l with
    | nil => intro _; rfl
    | cons z l ih =>
      intro h
      rw [List.all_cons, Bool.and_eq_true] at h
      unfold wiS
      rw [if_pos h.1, ih h.2]; rfl
  unfold r10_with
  refine ob (wiR v false l) ?_ ?_
  · refine (iter_eq (S := Bool × Int × List ByteArray) (R := Bool × List ByteArray) (fun s => some ((wiR v s.1 (l.drop s.2.1.toNat)).1, s.2.2 ++ (wiR v s.1 (l.drop s.2.1.toNat)).2))
      (fun s => ∃ i : Nat, s.2.1 = i ∧ i ≤ l.length ∧ s.2.2.length ≤ i + (if s.1 = true then 1 else 0)) (fun s => l.length - s.2.1.toNat) ?_ K (false, 0, []) ⟨0, rfl, Nat.zero_le _, by simp⟩ (by simpa using hl)).trans ?_
    rotate_left
    · simp
    rintro ⟨put, z, out⟩ ⟨i, h1, hi, ho⟩ g hg
    simp only at h1 ho
    subst h1
    simp only [Int.toNat_natCast]
    by_cases hi' : i < l.length
    · have hx : l[i]? = some l[i] := List.getElem?_eq_getElem hi'
      have hsd : SP (l[i] :: l.drop (i + 1)) := by rw [← List.drop_eq_getElem_cons hi']; exact hs.sublist (List.drop_sublist _ _)
      obtain ⟨hs1, hs2⟩ := List.pairwise_cons.1 hsd
      rw [List.drop_eq_getElem_cons hi']
      simp only [lt_tn hi', if_true, idx_nat, hx, Option.bind_some]
      cases put with
      | true =>
        simp only [if_true] at ho
        simp only [Bool.not_true, Bool.false_eq_true, if_false, Option.bind_some]
        have e0 : ∀ l, wiR v true l = (true, l.filter fun z => !(z.toList == v.toList)) := fun l => by unfold wiR; rw [if_pos rfl]
        cases hv : l[i].toList == v.toList with
        | true =>
          simp only [Bool.not_true, Bool.false_eq_true, if_false, Option.bind_some]
          rw [w64s (by omega), hg _ ⟨i + 1, rfl, hi', by simp; omega⟩ (by simp only [Int.toNat_natCast]; omega)]
          simp only [Int.toNat_natCast, e0, List.filter_cons, hv, Bool.not_true, Bool.false_eq_true, if_false]
        | false =>
          simp only [Bool.not_false, if_true, appO_one (show out.length ≤ 4 * topV by omega), Option.bind_some]
          rw [w64s (by omega), hg _ ⟨i + 1, rfl, hi', by simp; omega⟩ (by simp only [Int.toNat_natCast]; omega)]
          simp only [Int.toNat_natCast, e0, List.filter_cons, hv, Bool.not_false, if_true, List.append_assoc, List.cons_append, List.nil_append]
      | false =>
        simp only [Bool.false_eq_true, if_false, Nat.add_zero] at ho
        simp only [Bool.not_false, if_true, Option.bind_some]
        cases hlt : Op.bytesLess l[i].toList v.toList with
        | true =>
          have hlt' : ltS l[i] v = true := hlt
          have hne : (l[i].toList == v.toList) = false := neB (lt_ne hlt')
          simp only [Bool.not_true, Bool.false_eq_true, if_false, Option.bind_some, hne, Bool.not_false, if_true, appO_one (show out.length ≤ 4 * topV by omega)]
          rw [w64s (by omega), hg _ ⟨i + 1, rfl, hi', by simp; omega⟩ (by simp only [Int.toNat_natCast]; omega)]
          simp only [Int.toNat_natCast]
          unfold wiR
          simp only [Bool.false_eq_true, if_false, List.all_cons, hlt', Bool.true_and]
          cases hall : (l.drop (i + 1)).all fun z => ltS z v with
          | true => simp
          | false =>
            have : wiS v (l[i] :: l.drop (i + 1)) = l[i] :: wiS v (l.drop (i + 1)) := by rw [wiS, if_pos hlt']
            simp only [Bool.false_eq_true, if_false, this, List.append_assoc, List.cons_append, List.nil_append]
        | false =>
          have hlt' : ltS l[i] v = false := hlt
          simp only [Bool.not_false, if_true, appO_one (show out.length ≤ 4 * topV by omega), Option.bind_some]
          have e1 : wiR v false (l[i] :: l.drop (i + 1)) = (true, v :: ((l[i] :: l.drop (i + 1)).filter fun z => !(z.toList == v.toList))) := by
            unfold wiR
            simp only [Bool.false_eq_true, if_false, List.all_cons, hlt', Bool.false_and]
            rw [wiS, if_neg (by rw [hlt']; simp)]
          have e0 : ∀ l, wiR v true l = (true, l.filter fun z => !(z.toList == v.toList)) := fun l => by unfold wiR; rw [if_pos rfl]
          rw [e1]
          cases hv : l[i].toList == v.toList with
          | true =>
            simp only [Bool.not_true, Bool.false_eq_true, if_false, Option.bind_some]
            rw [w64s (by omega), hg _ ⟨i + 1, rfl, hi', by simp; omega⟩ (by simp only [Int.toNat_natCast]; omega)]
            simp only [Int.toNat_natCast, e0, List.filter_cons, hv, Bool.not_true, Bool.false_eq_true, if_false, List.append_assoc, List.cons_append, List.nil_append]
          | false =>
            simp only [Bool.not_false, if_true, appO_one (show (out ++ [v]).length ≤ 4 * topV by simp; omega), Option.bind_some]
            rw [w64s (by omega), hg _ ⟨i + 1, rfl, hi', by simp; omega⟩ (by simp only [Int.toNat_natCast]; omega)]
            simp only [Int.toNat_natCast, e0, List.filter_cons, hv, Bool.not_false, if_true, List.append_assoc, List.cons_append, List.nil_append]
    · have hie : i = l.length := by omega
      subst hie
      simp only [lt_fn (Nat.le_refl l.length), Bool.false_eq_true, if_false, List.drop_length]
      unfold wiR
      cases put <;> simp
  · unfold wiR
    simp only [Bool.false_eq_true, if_false]
    cases hall : l.all fun z => ltS z v with
    | true =>
      simp only [if_true, Bool.not_false, appO_one (show l.length ≤ 4 * topV by omega), Option.bind_some]
      rw [hend l hall]
    | false => simp
def botS (a b : List ByteArray) : List ByteArray := b.foldl (fun s v => wiS v s) a
theorem botS_sp : ∀ {b a : List ByteArray}, SP a → SP (botS a b)
  | [], _, h => h
  | v :: b, a, h => botS_sp (b := b) (sp_wiS h)
theorem botS_mem {x : ByteArray} : ∀ {b a : List ByteArray}, x ∈ botS a b ↔ x ∈ a ∨ x ∈ b
  | [], a => by simp [botS]
  | v :: b, a => by
    show x ∈ botS (wiS v a) b ↔ _
    rw [botS_mem, mem_wiS, List.mem_cons]
    constructor
    · rintro ((h | h) | h)
      · exact .inr (.inl h)
      · exact .inl h
      · exact .inr (.inr h)
    · rintro (h | h | h)
      · exact .inl (.inr h)
      · exact .inl (.inl h)
      · exact .inr h
theorem botS_len : ∀ {b a : List ByteArray}, (botS a b).length ≤ a.length + b.length
  | [], _ => by simp [botS]
  | v :: b, a => by
    show (botS (wiS v a) b).length ≤ _
    have h1 := botS_len (b := b) (a := wiS v a)
    have h2 := wiS_len (v := v) (l := a)
    simp; omega
theorem both_eq {K : Nat} {a b : List ByteArray} (hs : SP a) (hK : a.length + b.length < K) (ha : a.length ≤ topV) (hb : b.length ≤ topV) : r10_both K a b = some (botS a b) := by
  have ht : topV = 1000000000000 := rfl
  unfold r10_both
  refine ob _ (foldG b.length (fun i => (botS a (b.take i), (i : Int))) (botS a b) (fun g i hi => ?_) (fun g => ?_) (by omega) rfl) rfl
  · have hx : b[i]? = some b[i] := List.getElem?_eq_getElem hi
    have et : b.take (i + 1) = b.take i ++ [b[i]] := by rw [List.take_add_one, hx]; rfl
    have hl := botS_len (a := a) (b := b.take i)
    rw [List.length_take] at hl
    simp only [lt_tn hi, if_true, idx_nat, hx, Option.bind_some, with_eq (v := b[i]) (botS_sp (b := b.take i) hs) (show (botS a (b.take i)).length < K by omega) (by omega)]
    rw [w64s (by omega), et]
    unfold botS
    rw [List.foldl_append]; rfl
  · simp only [lt_fn (Nat.le_refl b.length), Bool.false_eq_true, if_false, List.take_length]
section
variable {V : List ByteArray} {A B : Api_NamesA} {K : Nat}
theorem join_eq (ha : Good V A) (hb : Good V B) (hK : KOk V K) : r10_join K A B = some (unionS A B) := by
  have h1 := ha.len
  have h2 := hb.len
  have h3 := hK.2
  have f1 : ∀ c, A.list.filter (fun x => pB (x ∈ B.list) == c) = mixS (!c) c false A.list B.list := fun c => ext_sp (sp_filter ha.sp) (sp_mix ha.sp hb.sp) fun x => by
    rw [mem_mix ha.sp hb.sp, List.mem_filter, beq_iff_eq]
    by_cases q1 : x ∈ A.list <;> by_cases q2 : x ∈ B.list <;> cases c <;> simp [q1, q2, pB_true.2, pB_false.2]
  have f2 : B.list.filter (fun x => pB (x ∈ A.list) == false) = mixS false false true A.list B.list := ext_sp (sp_filter hb.sp) (sp_mix ha.sp hb.sp) fun x => by
    rw [mem_mix ha.sp hb.sp, List.mem_filter, beq_iff_eq]
    by_cases q1 : x ∈ A.list <;> by_cases q2 : x ∈ B.list <;> simp [q1, q2, pB_true.2, pB_false.2]
  have f3 : botS A.list B.list = mixS true true true A.list B.list := ext_sp (botS_sp ha.sp) (sp_mix ha.sp hb.sp) fun x => by
    rw [mem_mix ha.sp hb.sp, botS_mem]
    by_cases q1 : x ∈ A.list <;> by_cases q2 : x ∈ B.list <;> simp [q1, q2]
  have k1 : ∀ c, r10_kept K A.list B.list c = some (mixS (!c) c false A.list B.list) := fun c => by rw [kept_eq (by omega) (by omega) ha.lt hb.lt, f1 c]
  have k2 : r10_kept K B.list A.list false = some (mixS false false true A.list B.list) := by rw [kept_eq (by omega) (by omega) hb.lt ha.lt, f2]
  have k3 : r10_both K A.list B.list = some (mixS true true true A.list B.list) := by rw [both_eq ha.sp (by omega) ha.lt hb.lt, f3]
  unfold r10_join unionS
  simp only [k1, k2, k3, Option.bind_some]
  cases A.all <;> cases B.all <;> rfl
theorem meet_eq (ha : Good V A) (hb : Good V B) (hK : KOk V K) : r10_meet K A B = some (meetS A B) := by
  unfold r10_meet r10_other
  simp only [Option.bind_some]
  exact ob _ (join_eq (good_not ha) (good_not hb) hK) rfl
theorem minus_eq (ha : Good V A) (hb : Good V B) (hK : KOk V K) : r10_minus K A B = some (minusS A B) := by
  unfold r10_minus r10_other
  simp only [Option.bind_some]
  exact ob _ (meet_eq ha (good_not hb) hK) rfl
theorem r10_Variable_eq {s : ByteArray} (hK : 12 < K) (hs : s.size < 9223372036854775807) : r10_Variable K s = some (varB s) := by
  unfold r10_Variable varB unpB
  by_cases h0 : s.size = 0
  · have e : decide ((0 : Int) < (s.size : Int)) = false := decide_eq_false (by omega)
    have e2 : ¬ (0 < s.size ∧ s[s.size - 1]? = some 39) := fun h => absurd h.1 (by omega)
    simp only [e, Bool.false_eq_true, if_false, Option.bind_some, if_neg e2, r08_Name_eq hK]
  · have e : decide ((0 : Int) < (s.size : Int)) = true := decide_eq_true (by omega)
    have ew : IntKind.wrap .i64 ((s.size : Int) - 1) = ((s.size - 1 : Nat) : Int) := by rw [w64 (by omega) (by omega)]; omega
    obtain ⟨h1, h2⟩ := strAt_get (s := s) (i := s.size - 1) (by omega)
    simp only [e, if_true, ew, h1, Option.bind_some, byte39]
    rw [h2]
    by_cases h3 : s[s.size - 1] = 39
    · have e3 : (s[s.size - 1] == 39) = true := by rw [h3]; rfl
      have e4 : cutStr s none (some ((s.size - 1 : Nat) : Int)) = some (s.extract 0 (s.size - 1)) := by
        unfold cutStr
        simp only [Option.getD_some, Option.getD_none]
        rw [if_pos (by omega)]; rfl
      rw [if_pos (show 0 < s.size ∧ some s[s.size - 1] = some 39 from ⟨by omega, by rw [h3]⟩)]
      simp only [e3, if_true, e4, Option.bind_some, r08_Name_eq hK]
    · have e3 : (s[s.size - 1] == 39) = false := beq_eq_false_iff_ne.2 h3
      rw [if_neg (show ¬ (0 < s.size ∧ some s[s.size - 1] = some 39) from fun h => h3 (Option.some.inj h.2))]
      simp only [e3, Bool.false_eq_true, if_false, Option.bind_some, r08_Name_eq hK]
theorem r10_Valid_eq (h : Good V A) (hK : 12 < K) (hK2 : A.list.length < K) : r10_Valid K A = some true := by
  unfold r10_Valid
  have ht := h.lt
  unfold topV at ht
  refine ob (Out.go () : Out Unit Bool) (foldG A.list.length (fun i => (i : Int)) (Out.go () : Out Unit Bool) (fun g i hi => ?_) (fun g => ?_) hK2 rfl) rfl
  · have hx : A.list[i]? = some A.list[i] := List.getElem?_eq_getElem hi
    have hv := h.var _ (List.getElem_mem hi)
    simp only [lt_tn hi, if_true, idx_nat, hx, Option.bind_some, r10_Variable_eq hK (Nat.lt_trans (h.uni.siz _ (h.sub _ (List.getElem_mem hi))) (by omega)), hv, Bool.not_true, Bool.false_eq_true, if_false]
    by_cases h0 : i = 0
    · subst h0
      rfl
    · have hd2 : decide ((0 : Int) < (i : Int)) = true := by simp; omega
      have ew : IntKind.wrap .i64 ((i : Int) - 1) = ((i - 1 : Nat) : Int) := by rw [w64 (by omega) (by omega)]; omega
      have hy : A.list[i - 1]? = some A.list[i - 1] := List.getElem?_eq_getElem (by omega)
      have hl : Op.bytesLess A.list[i - 1].toList A.list[i].toList = true := List.pairwise_iff_getElem.1 h.sp (i - 1) i (by omega) hi (by omega)
      simp only [hd2, if_true, ew, idx_nat, hy, Option.bind_some, hl, Bool.not_true, Bool.false_eq_true, if_false, Out.fin_go]
      rw [w64s (by omega)]
  · simp only [lt_fn (Nat.le_refl A.list.length), Bool.false_eq_true, if_false]
theorem r10_Union_eq (ha : Good V A) (hb : Good V B) (hK : KOk V K) : r10_Union K A B = some (unionS A B, 0) := by
  have h1 := ha.len
  have h2 := hb.len
  unfold r10_Union
  simp only [r10_Valid_eq ha hK.1 (show A.list.length < K by have := hK.2; omega), r10_Valid_eq hb hK.1 (show B.list.length < K by have := hK.2; omega), Option.bind_some, Bool.not_true, Bool.false_eq_true, if_false, Out.fin_go, join_eq ha hb hK]
theorem same_eq (hl : A.list.length < K) (hb : A.list.length ≤ topV) : r10_Same K A A = some true := by
  have ht : topV = 1000000000000 := rfl
  have e1 : (!(A.all == A.all)) = false := by simp
  have e2 : ((A.list.length : Int) != (A.list.length : Int)) = false := by simp
  unfold r10_Same
  rw [e1, e2]
  simp only [Bool.false_eq_true, if_false, Option.bind_some, Out.fin_go]
  refine ob (Out.go () : Out Unit Bool) (foldG A.list.length (fun i => (i : Int)) (Out.go () : Out Unit Bool) (fun g i hi => ?_) (fun g => ?_) hl rfl) rfl
  · have hx : A.list[i]? = some A.list[i] := List.getElem?_eq_getElem hi
    simp only [lt_tn hi, if_true, idx_nat, hx, Option.bind_some, beq_self_eq_true, Bool.not_true, Bool.false_eq_true, if_false]
    rw [w64s (by omega)]
  · simp only [lt_fn (Nat.le_refl A.list.length), Bool.false_eq_true, if_false]
end
end Go.Proofs.YtngmfimpaembnaaGreatDoor
