/- Part of the proof of a law: contracts of the functions that the law reaches, or plain laws of them, out of the abstract layer (the texts YtngmfimpaembnaaGreatDoorIso..). No condition. -/
import Derived.Test.YtngmfimpaembnaaGreatDoorLren2
import Derived.Test.YtngmfimpaembnaaGreatDoorLdigits
import Derived.Test.YtngmfimpaembnaaGreatDoorPc
namespace Go.Proofs.YtngmfimpaembnaaGreatDoor
open Go Go.Iso Go.Proofs
set_option linter.unusedSimpArgs false
set_option linter.unusedVariables false
set_option maxRecDepth 100000
/-! ### Names that occur -/
theorem occurs_ex {K : Nat} {s : ByteArray} : ∀ (n : NodeA) (j : Nat), n.size ≤ j → n.size ≤ K → n.size ≤ big →
    ∃ b, iter j (fun self q => rename_occurs_body K self q.1 q.2) (n, s) = some b ∧ iter j (fun self q => r18_named_body K self q.1 q.2) (n, s) = some b := by
  refine NodeA.ind fun n ih => ?_
  intro j hj hK hb
  have hp := n.size_pos
  have hkl := n.kids_lt
  obtain ⟨j, rfl⟩ : ∃ i, j = i + 1 := ⟨j - 1, by omega⟩
  rw [iter_succ, iter_succ]
  have ih' : ∀ k ∈ n.kids, ∃ b, iter j (fun self q => rename_occurs_body K self q.1 q.2) (k, s) = some b ∧ iter j (fun self q => r18_named_body K self q.1 q.2) (k, s) = some b :=
    fun k hk => ih k hk j (by have := NodeA.size_lt hk; omega) (by have := NodeA.size_lt hk; omega) (by have := NodeA.size_lt hk; omega)
  generalize iter j (fun self q => rename_occurs_body K self q.1 q.2) = S at ih' ⊢
  generalize iter j (fun self q => r18_named_body K self q.1 q.2) = S' at ih' ⊢
  unfold rename_occurs_body r18_named_body
  simp only
  cases n.name.toList == s.toList with
  | true => exact ⟨true, rfl, rfl⟩
  | false =>
    simp only [Bool.false_eq_true, if_false]
    have hS : ∀ k ∈ n.kids, S (k, s) = S' (k, s) := fun k hk => by obtain ⟨b, h1, h2⟩ := ih' k hk; rw [h1, h2]
    have hl : n.kids.length < 9223372036854775807 := by unfold big at hb; omega
    have e1 := scan n.kids (fun k => !((S (k, s)).getD true)) true hl (K := K) (f := fun again i2_0 => 
      if (decide (i2_0 < (n.kids.length : Int))) = true then
        (idx n.kids i2_0).bind fun x7 => 
        (S (x7, s)).bind fun r9 => 
        if r9 = true then
          outM (
            some true)
        else
          again (IntKind.wrap .i64 (i2_0 + (1 : Int)))
      else
        some (.go ())) (fun g i x hx => by
        obtain ⟨hi, rfl⟩ := List.getElem?_eq_some_iff.1 hx
        obtain ⟨b, h1, _⟩ := ih' _ (List.getElem_mem hi)
        rw [if_pos (by simp; omega)]
        refine ob _ (show idx n.kids (i : Int) = some n.kids[i] by rw [idx_nat]; exact hx) ?_
        rw [h1]
        cases b <;> rfl) (fun g i hi => by rw [if_neg (by simp; omega)]) (by omega)
    have e2 := scan n.kids (fun k => !((S' (k, s)).getD true)) true hl (K := K) (f := fun again i2_0 => 
      if (decide (i2_0 < (n.kids.length : Int))) = true then
        (idx n.kids i2_0).bind fun x7 => 
        (S' (x7, s)).bind fun r9 => 
        if r9 = true then
          outM (
            some true)
        else
          again (IntKind.wrap .i64 (i2_0 + (1 : Int)))
      else
        some (.go ())) (fun g i x hx => by
        obtain ⟨hi, rfl⟩ := List.getElem?_eq_some_iff.1 hx
        obtain ⟨b, _, h1⟩ := ih' _ (List.getElem_mem hi)
        rw [if_pos (by simp; omega)]
        refine ob _ (show idx n.kids (i : Int) = some n.kids[i] by rw [idx_nat]; exact hx) ?_
        rw [h1]
        cases b <;> rfl) (fun g i hi => by rw [if_neg (by simp; omega)]) (by omega)
    have ea : (n.kids.all fun k => !((S (k, s)).getD true)) = n.kids.all fun k => !((S' (k, s)).getD true) := by
      rw [Bool.eq_iff_iff]; simp only [List.all_eq_true]
      exact ⟨fun h k hk => by rw [← hS k hk]; exact h k hk, fun h k hk => by rw [hS k hk]; exact h k hk⟩
    rw [ea] at e1
    refine ⟨!(n.kids.all fun k => !((S' (k, s)).getD true)), ob _ e1 ?_, ob _ e2 ?_⟩ <;> cases (n.kids.all fun k => !((S' (k, s)).getD true)) <;> rfl
theorem occ_ex {K : Nat} {n : NodeA} (s : ByteArray) (hK : n.size ≤ K) (hb : n.size ≤ big) : ∃ b, rename_occurs K n s = some b ∧ r18_named K n s = some b := occurs_ex n K hK hK hb
/-! ### The row of names -/
theorem catO_small {a b : ByteArray} (h : a.size ≤ 12) (hb : b.size ≤ 100) : ∃ s, catO a b = some s ∧ s.size = a.size + b.size := by
  unfold catO
  have e : IntKind.i64.max = 9223372036854775807 := by decide
  rw [if_pos (by rw [e]; omega)]
  exact ⟨_, rfl, ByteArray.size_append⟩
theorem fresh_loop {K : Nat} {n : NodeA} {base : ByteArray} (hK : n.size ≤ K) (hK2 : 20000000000000 < K) (hb : n.size ≤ big) (hbase : base.size ≤ 12) :
    ∀ (m k : Nat) (i : Nat) (s : ByteArray), i + m = 1000000000010 → m < k → (1000000000005 < i → 12 < s.size) →
      ∃ o : Out Unit (ByteArray × Int),
      iter k (S := ByteArray × Int) (R := Out Unit (ByteArray × Int)) (fun again (q : ByteArray × Int) => 
        if (decide ((12 : Int) < (q.1.size : Int))) = true then
          outM (
            some ((⟨#[]⟩ : ByteArray), (2 : Int)))
        else
          (rename_occurs K n q.1).bind fun r12 => 
          if (!r12) = true then
            outM (
              some (q.1, (0 : Int)))
          else
            (strconv_Itoa K q.2).bind fun r15 => 
            (catO base r15).bind fun s17 => 
            again (s17, IntKind.wrap .i64 (q.2 + (1 : Int)))) (s, (i : Int)) = some o ∧
      iter k (S := ByteArray × Int) (R := Out Unit (ByteArray × Int)) (fun again (q : ByteArray × Int) => 
        if (decide ((12 : Int) < (q.1.size : Int))) = true then
          outM (
            some ((⟨#[]⟩ : ByteArray), (2 : Int)))
        else
          (r18_named K n q.1).bind fun r12 => 
          if (!r12) = true then
            outM (
              some (q.1, (0 : Int)))
          else
            (r01_Int K q.2).bind fun r15 => 
            (r01_Text K r15).bind fun r17 => 
            (catO base r17).bind fun s19 => 
            again (s19, IntKind.wrap .i64 (q.2 + (1 : Int)))) (s, (i : Int)) = some o ∧ ∃ r, o = .out r := by
  intro m
  induction m with
  | zero =>
    intro k i s hm hk hs
    obtain ⟨k, rfl⟩ : ∃ j, k = j + 1 := ⟨k - 1, by omega⟩
    rw [iter_succ, iter_succ]
    have h1 := hs (by omega)
    simp only
    rw [if_pos (by simp only [decide_eq_true_eq]; omega), if_pos (by simp only [decide_eq_true_eq]; omega)]
    exact ⟨_, rfl, rfl, _, rfl⟩
  | succ m ih =>
    intro k i s hm hk hs
    obtain ⟨k, rfl⟩ : ∃ j, k = j + 1 := ⟨k - 1, by omega⟩
    rw [iter_succ, iter_succ]
    simp only
    by_cases h12 : 12 < s.size
    · rw [if_pos (by simp only [decide_eq_true_eq]; omega), if_pos (by simp only [decide_eq_true_eq]; omega)]
      exact ⟨_, rfl, rfl, _, rfl⟩
    · obtain ⟨b, ho1, ho2⟩ := occ_ex s hK hb
      have ht := text_int (K := K) (n := i) (by omega) (by omega)
      have hi : strconv_Itoa K (i : Int) = some ⟨(Lib.itoa (i : Int)).toArray⟩ := by unfold strconv_Itoa; rw [if_pos (by omega)]
      rw [hi] at ht ⊢
      have hsz : (⟨(Lib.itoa (i : Int)).toArray⟩ : ByteArray).size = (Lib.itoa (i : Int)).length := by simp [ByteArray.size]
      have hsh := itoa_short (n := (i : Int)) (by omega)
      obtain ⟨s', hc, hs'⟩ := catO_small (a := base) (b := ⟨(Lib.itoa (i : Int)).toArray⟩) hbase (by omega)
      have hn := ih k (i + 1) s' (by omega) (by omega) (fun h => by
        have := itoa_long (n := i) (by omega); omega)
      obtain ⟨o, h1, h2, h3⟩ := hn
      rw [if_neg (by simp only [decide_eq_true_eq]; omega), if_neg (by simp only [decide_eq_true_eq]; omega), ho1, ho2, Option.bind_some, Option.bind_some]
      have hw : IntKind.wrap .i64 ((i : Int) + 1) = ((i + 1 : Nat) : Int) := w64s (by omega)
      cases b with
      | false => exact ⟨_, rfl, rfl, _, rfl⟩
      | true =>
        refine ⟨o, ?_, ?_, h3⟩
        · rw [if_neg (by simp)]; refine ob _ hc ?_; rw [hw]; exact h1
        · rw [Option.bind_some, if_neg (by simp)]
          have e : ∀ f : ByteArray → Option (Out Unit (ByteArray × Int)), ((r01_Int K (i : Int)).bind fun r15 => (r01_Text K r15).bind f) = ((r01_Int K (i : Int)).bind fun r => r01_Text K r).bind f := fun f => by
            cases r01_Int K (i : Int) <;> rfl
          rw [e, ht]; refine ob _ rfl (ob _ hc ?_); rw [hw]; exact h2
theorem nameB_size {s : ByteArray} (h : nameB s = true) : s.size ≤ 12 := by
  unfold nameB at h
  simp only [Bool.and_eq_true, Bool.not_eq_true', Bool.or_eq_false_iff, decide_eq_true_eq, decide_eq_false_iff_not] at h
  omega
theorem fresh_law {n : NodeA} {s : ByteArray} (hb : n.size ≤ big) (hw : n.words) : ∃ K, law18_RenameFresh K n s = some true := by
  refine ⟨(2 * n.size + 30000000000000) + 200, ?_⟩
  obtain ⟨K, hKe⟩ : ∃ K, K = (2 * n.size + 30000000000000) + 200 := ⟨_, rfl⟩
  have haw : law18_awake K = some true := by rw [hKe]; exact awake18_eq _
  rw [← hKe]
  have hp := n.size_pos
  unfold law18_RenameFresh
  rw [haw, Option.bind_some, if_neg (by simp), r08_Size_eq (by omega) hb, Option.bind_some]
  cases decide ((1000 : Int) < (n.size : Int)) with
  | true => rfl
  | false =>
  rw [if_neg (by simp)]
  have hA : ∃ r, rename_Fresh K n s = some r ∧ r18_Fresh K n s = some r := by
    unfold rename_Fresh r18_Fresh
    rw [rename_check_eq (by omega) (by omega) hb, r18_check_eq (by omega) (by omega) hb hw, Option.bind_some, Option.bind_some]
    cases hr : (rootS n != 0) with
    | true => exact ⟨_, rfl, rfl⟩
    | false =>
      rw [if_neg (by simp), if_neg (by simp), tree_Name_eq (by omega), r08_Name_eq (by omega), Option.bind_some, Option.bind_some]
      cases hn : nameB s with
      | false => exact ⟨_, rfl, rfl⟩
      | true =>
        rw [if_neg (by simp), if_neg (by simp)]
        obtain ⟨o, h1, h2, r, rfl⟩ := fresh_loop (K := K) (n := n) (base := s) (by omega) (by omega) hb (nameB_size hn) 1000000000010 K 0 s (by omega) (by omega) (fun h => by omega)
        exact ⟨r, ob _ h1 rfl, ob _ h2 rfl⟩
  obtain ⟨r, h1, h2⟩ := hA
  rw [h1, h2, Option.bind_some, Option.bind_some, if_pos (by simp)]
  simp
end Go.Proofs.YtngmfimpaembnaaGreatDoor
