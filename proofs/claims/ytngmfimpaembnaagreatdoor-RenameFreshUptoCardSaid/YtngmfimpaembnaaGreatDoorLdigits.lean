/- Part of the proof of a law: contracts of the functions that the law reaches, or plain laws of them, out of the abstract layer (the texts YtngmfimpaembnaaGreatDoorIso..). No condition. -/
import Derived.Test.YtngmfimpaembnaaGreatDoorW
import Derived.Test.YtngmfimpaembnaaGreatDoorLman
import Derived.Test.YtngmfimpaembnaaGreatDoorPc
import Derived.Test.YtngmfimpaembnaaGreatDoorIsoX
namespace Go.Proofs.YtngmfimpaembnaaGreatDoor
open Go Go.Iso Go.Proofs
set_option linter.unusedSimpArgs false
set_option linter.unusedVariables false
set_option maxRecDepth 100000
/-! ### Numerals: the reference's, by parts of four digits -/
def digL (v : Nat) : List Int := if h : v = 0 then [] else digL (v / 10) ++ [((48 + v % 10 : Nat) : Int)]
termination_by v
decreasing_by omega
theorem digL_zero : digL 0 = [] := by rw [digL]; rfl
theorem digL_pos {v : Nat} (h : v ≠ 0) : digL v = digL (v / 10) ++ [((48 + v % 10 : Nat) : Int)] := by rw [digL, dif_neg h]
theorem digL_ne {v : Nat} (h : v ≠ 0) : 0 < (digL v).length := by rw [digL_pos h]; simp
theorem digL_step {v d : Nat} (hd : d < 10) : digL (10 * v + d) = if 0 < (digL v).length ∨ 0 < d then digL v ++ [((48 + d : Nat) : Int)] else digL v := by
  by_cases h : 10 * v + d = 0
  · have h1 : v = 0 := by omega
    have h2 : d = 0 := by omega
    subst h1 h2
    rw [digL_zero]; rfl
  · rw [digL_pos h]
    have e1 : (10 * v + d) / 10 = v := by omega
    have e2 : (10 * v + d) % 10 = d := by omega
    rw [e1, e2, if_pos]
    by_cases hv : v = 0
    · right; omega
    · left; exact digL_ne hv
theorem digL_len (v : Nat) : (digL v).length ≤ v := by
  induction v using Nat.strongRecOn with
  | _ v ih =>
    by_cases h : v = 0
    · subst h; rw [digL_zero]; exact Nat.le_refl _
    · rw [digL_pos h, List.length_append, List.length_singleton]
      have := ih (v / 10) (by omega)
      omega
theorem digL_dec : ∀ {v : Nat}, v ≠ 0 → (digL v).map (fun z => UInt8.ofNat z.toNat) = Lib.decDigits v := by
  intro v
  induction v using Nat.strongRecOn with
  | _ v ih =>
    intro h
    rw [digL_pos h, Lib.decDigits]
    split
    · next h1 =>
      have e : v / 10 = 0 := by omega
      rw [e, digL_zero]
      have e2 : v % 10 = v := by omega
      rw [e2]
      simp only [List.nil_append, List.map_cons, List.map_nil, Int.toNat_natCast]
    · next h1 =>
      rw [List.map_append, ih (v / 10) (by omega) (by omega)]
      simp only [List.map_cons, List.map_nil, Int.toNat_natCast]
def limbs (n : Nat) : List Int := if h : n = 0 then [] else ((n % 10000 : Nat) : Int) :: limbs (n / 10000)
termination_by n
decreasing_by omega
def valL : List Int → Nat
  | [] => 0
  | d :: r => d.toNat + 10000 * valL r
theorem valL_limbs (n : Nat) : valL (limbs n) = n := by
  induction n using Nat.strongRecOn with
  | _ n ih =>
    by_cases h : n = 0
    · subst h; rw [limbs]; rfl
    · rw [limbs, dif_neg h, valL, ih (n / 10000) (by omega)]; omega
theorem limbs_lt (n : Nat) : ∀ x ∈ limbs n, 0 ≤ x ∧ x < 10000 := by
  induction n using Nat.strongRecOn with
  | _ n ih =>
    by_cases h : n = 0
    · subst h; rw [limbs]; intro x hx; cases hx
    · rw [limbs, dif_neg h]
      intro x hx
      rcases List.mem_cons.1 hx with rfl | hx
      · omega
      · exact ih (n / 10000) (by omega) x hx
theorem limbs_len (n : Nat) : (limbs n).length ≤ n := by
  induction n using Nat.strongRecOn with
  | _ n ih =>
    by_cases h : n = 0
    · subst h; rw [limbs]; exact Nat.le_refl _
    · rw [limbs, dif_neg h, List.length_cons]
      have := ih (n / 10000) (by omega)
      omega
theorem limbs_ne {n : Nat} (h : n ≠ 0) : (limbs n).length ≠ 0 := by rw [limbs, dif_neg h]; simp
theorem appO_fit {α : Type} {b : Nat} {l r : List α} (h : (2 * (l.length + r.length) + 1000) * b ≤ 2 ^ 48) : appO b l r = some (l ++ r) := by
  unfold appO; rw [if_pos h]
theorem r01_Int_eq {K : Nat} : ∀ (n : Nat), n ≤ 10000000000000 → n < K → r01_Int K (n : Int) = some (limbs n) := by
  intro n hn hK
  unfold r01_Int
  have m1 : must ((10000 : Int) != 0) = some () := rfl
  simp only [m1, Option.bind_some]
  have key : ∀ (k n : Nat) (acc : List Int), n < k → acc.length + n ≤ 10000000000000 →
      iter k (S := Int × (List Int)) (R := (List Int)) (fun again (q : Int × List Int) => 
        if (decide ((0 : Int) < q.1)) = true then (appO 8 q.2 [q.1.tmod (10000 : Int)]).bind fun l8 => again (IntKind.wrap .i64 (q.1.tdiv (10000 : Int)), l8)
        else some q.2) ((n : Int), acc) = some (acc ++ limbs n) := by
    intro k
    induction k with
    | zero => intro n acc h; omega
    | succ k ih =>
      intro n acc hk hl
      rw [iter_succ]
      simp only
      by_cases h : n = 0
      · subst h
        rw [if_neg (by simp), limbs, dif_pos rfl, List.append_nil]
      · rw [if_pos (by simp; omega), appO_fit (by simp only [List.length_singleton]; omega), Option.bind_some]
        have e1 : IntKind.wrap .i64 ((n : Int).tdiv 10000) = ((n / 10000 : Nat) : Int) := by
          have : (n : Int).tdiv 10000 = ((n / 10000 : Nat) : Int) := by rw [Int.tdiv_eq_ediv_of_nonneg (by omega)]; omega
          rw [this]; exact w64 (by omega) (by omega)
        have e2 : (n : Int).tmod 10000 = ((n % 10000 : Nat) : Int) := by rw [Int.tmod_eq_emod_of_nonneg (by omega)]; omega
        rw [e1, e2, ih (n / 10000) _ (by omega) (by simp only [List.length_append, List.length_singleton]; omega), List.append_assoc]
        congr 2
        rw [show limbs n = _ from by rw [limbs, dif_neg h]]; rfl
  have := key K n [] hK (by simpa using hn)
  rw [List.nil_append] at this
  refine ob _ (Eq.trans ?_ this) rfl
  rfl
theorem textIn_eq {K : Nat} {a : Int} {v : Nat} (ha0 : 0 ≤ a) (ha : a < 10000) (hv : v ≤ 1000000000) (hK : 4 < K) :
    iter K (S := Int × (List Int)) (R := (List Int)) (fun again (q : Int × List Int) =>
          if (decide ((0 : Int) < q.1)) = true then
            (((must (q.1 != 0)).bind fun z16 => 
              ((
                if (decide ((0 : Int) < (q.2.length : Int))) = true then
                  some true
                else
                  some (decide ((0 : Int) < ((IntKind.wrap .i64 (a.tdiv q.1)).tmod (10 : Int))))) : Option Bool).bind (fun v20_0 => 
              if v20_0 = true then
                (appO 1 q.2 [IntKind.wrap .u8 (IntKind.wrap .i64 ((48 : Int) + ((IntKind.wrap .i64 (a.tdiv q.1)).tmod (10 : Int))))]).bind fun l24 => 
                some l24
              else
                some q.2)) : Option (List Int)).bind (fun v12_0 => 
            again (IntKind.wrap .i64 (q.1.tdiv (10 : Int)), v12_0))
          else
            some q.2) ((1000 : Int), digL v) = some (digL (10000 * v + a.toNat)) := by
  obtain ⟨a, rfl⟩ : ∃ n : Nat, a = n := ⟨a.toNat, by omega⟩
  simp only [Int.toNat_natCast]
  refine foldG 4 (fun i => (((1000 / 10 ^ i : Nat) : Int), digL (v * 10 ^ i + a / 10 ^ (4 - i)))) _ (fun g i hi => ?_) (fun g => ?_) hK (by
    have : v * 10 ^ 0 + a / 10 ^ (4 - 0) = v := by simp; omega
    simp only [this]; rfl)
  rotate_left
  · have : v * 10 ^ 4 + a / 10 ^ (4 - 4) = 10000 * v + a := by simp; omega
    simp only [this]; rfl
  have step : ∀ (k u d w : Nat), 0 < k → k ≤ 1000 → d = a / k % 10 → w = 10 * u + d → u ≤ 2000000000000 →
      (((must ((k : Int) != 0)).bind fun z16 => 
              ((
                if (decide ((0 : Int) < ((digL u).length : Int))) = true then
                  some true
                else
                  some (decide ((0 : Int) < ((IntKind.wrap .i64 ((a : Int).tdiv (k : Int))).tmod (10 : Int))))) : Option Bool).bind (fun v20_0 => 
              if v20_0 = true then
                (appO 1 (digL u) [IntKind.wrap .u8 (IntKind.wrap .i64 ((48 : Int) + ((IntKind.wrap .i64 ((a : Int).tdiv (k : Int))).tmod (10 : Int))))]).bind fun l24 => 
                some l24
              else
                some (digL u))) : Option (List Int)) = some (digL w) := by
    intro k u d w hk hk2 hd hw hu
    have m1 : must ((k : Int) != 0) = some () := by
      have : ((k : Int) != 0) = true := by rw [bne_iff_ne]; omega
      rw [this]; rfl
    have e1 : IntKind.wrap .i64 ((a : Int).tdiv (k : Int)) = ((a / k : Nat) : Int) := by
      have h2 : a / k ≤ a := Nat.div_le_self _ _
      have : (a : Int).tdiv (k : Int) = ((a / k : Nat) : Int) := rfl
      rw [this]
      generalize a / k = q at h2
      exact w64 (by omega) (by omega)
    have e2 : ((a / k : Nat) : Int).tmod 10 = (d : Int) := by rw [hd]; rfl
    have hd10 : d < 10 := by omega
    have e3 : IntKind.wrap .i64 ((48 : Int) + (d : Int)) = ((48 + d : Nat) : Int) := by rw [w64 (by omega) (by omega)]; omega
    have e4 : IntKind.wrap .u8 ((48 + d : Nat) : Int) = ((48 + d : Nat) : Int) := by
      have h9 : ((48 + d : Nat) : Int) % 256 = ((48 + d : Nat) : Int) := by omega
      simp only [IntKind.wrap, IntKind.bits, IntKind.signed, Bool.false_and, Bool.false_eq_true, if_false]
      exact h9
    rw [m1, e1, e2, e3, e4, hw, digL_step hd10]
    have hl := digL_len u
    rw [Option.bind_some]
    have c1 : decide ((0 : Int) < ((digL u).length : Int)) = decide (0 < (digL u).length) := by simp
    have c2 : decide ((0 : Int) < (d : Int)) = decide (0 < d) := by simp
    rw [c1, c2, orO, Option.bind_some, appO_fit (by simp only [List.length_singleton]; omega), Option.bind_some]
    by_cases h : 0 < (digL u).length ∨ 0 < d
    · rw [if_pos h, if_pos (by simpa using h)]
    · rw [if_neg h, if_neg (by simpa using h)]
  have h10 : ∀ j : Nat, 1000 / 10 ^ (j + 1) = 1000 / 10 ^ j / 10 := fun j => by rw [Nat.pow_succ, Nat.div_div_eq_div_mul]
  have hpos : 0 < 1000 / 10 ^ i := by
    match i, hi with
    | 0, _ => decide
    | 1, _ => decide
    | 2, _ => decide
    | 3, _ => decide
  have hle : 1000 / 10 ^ i ≤ 1000 := Nat.div_le_self _ _
  rw [if_pos (by simp only [decide_eq_true_eq]; omega)]
  have hw : v * 10 ^ (i + 1) + a / 10 ^ (4 - (i + 1)) = 10 * (v * 10 ^ i + a / 10 ^ (4 - i)) + a / (1000 / 10 ^ i) % 10 := by
    match i, hi with
    | 0, _ => simp; omega
    | 1, _ => simp; omega
    | 2, _ => simp; omega
    | 3, _ => simp; omega
  have hu : v * 10 ^ i + a / 10 ^ (4 - i) ≤ 2000000000000 := by
    match i, hi with
    | 0, _ => simp; omega
    | 1, _ => simp; omega
    | 2, _ => simp; omega
    | 3, _ => simp; omega
  refine ob _ (step _ _ _ _ hpos hle rfl hw hu) ?_
  have e5 : IntKind.wrap .i64 (((1000 / 10 ^ i : Nat) : Int).tdiv 10) = ((1000 / 10 ^ (i + 1) : Nat) : Int) := by
    rw [h10]
    generalize 1000 / 10 ^ i = q at hle
    have : (q : Int).tdiv 10 = ((q / 10 : Nat) : Int) := rfl
    rw [this]; exact w64 (by omega) (by omega)
  rw [e5]
theorem valL_drop {l : List Int} (hl : ∀ x ∈ l, 0 ≤ x ∧ x < 10000) (j : Nat) : valL (l.drop j) ≤ valL l := by
  induction l generalizing j with
  | nil => simp [valL]
  | cons x l ih =>
    cases j with
    | zero => exact Nat.le_refl _
    | succ j =>
      have := ih (fun y hy => hl y (List.mem_cons_of_mem _ hy)) j
      rw [List.drop_succ_cons, valL]; omega
theorem r01_Text_eq {K : Nat} {l : List Int} (hl : ∀ x ∈ l, 0 ≤ x ∧ x < 10000) (hv : valL l ≤ 10000000000000) (hlen : l.length < 9223372036854775807) (hK : 4 < K) (hK2 : l.length < K) :
    r01_Text K l = some (if l.length = 0 then ⟨#[48]⟩ else strOfNums (digL (valL l))) := by
  unfold r01_Text
  by_cases h0 : l.length = 0
  · rw [if_pos (int_eq0 h0), if_pos h0]
  · rw [if_neg (by rw [int_ne0 h0]; simp), if_neg h0]
    have m1 : must ((10 : Int) != 0) = some () := rfl
    refine ob _ (foldG l.length (fun j => (((l.length : Int) - 1 - (j : Int)), digL (valL (l.drop (l.length - j))))) (digL (valL l)) (fun g i hi => ?_) (fun g => ?_) hK2 ?_) rfl
    · have hidx : idx l ((l.length : Int) - 1 - (i : Int)) = some (l[l.length - 1 - i]'(by omega)) := by
        have e : ((l.length : Int) - 1 - (i : Int)) = ((l.length - 1 - i : Nat) : Int) := by omega
        rw [e]; unfold idx; rw [if_pos (by omega)]
        simp only [Int.toNat_natCast]; exact List.getElem?_eq_getElem (by omega)
      have hx := hl _ (List.getElem_mem (show l.length - 1 - i < l.length by omega))
      generalize hxx : l[l.length - 1 - i]'(by omega) = x at hidx hx
      have e1 : l.drop (l.length - (i + 1)) = x :: l.drop (l.length - i) := by
        have e : l.length - (i + 1) = l.length - 1 - i := by omega
        rw [e, List.drop_eq_getElem_cons (by omega), hxx]
        congr 2; omega
      have hvd := valL_drop hl (l.length - (i + 1))
      rw [e1, valL] at hvd
      simp only
      rw [if_pos (by simp only [decide_eq_true_eq]; omega)]
      have hin := textIn_eq (K := K) (a := x) (v := valL (l.drop (l.length - i))) hx.1 hx.2 (by omega) hK
      refine ob _ (Eq.trans ?_ hin) ?_
      · simp only [hidx, m1, Option.bind_some]
      · have e2 : IntKind.wrap .i64 ((l.length : Int) - 1 - (i : Int) - 1) = (l.length : Int) - 1 - ((i + 1 : Nat) : Int) := by rw [w64 (by omega) (by omega)]; omega
        have e3 : 10000 * valL (l.drop (l.length - i)) + x.toNat = valL (l.drop (l.length - (i + 1))) := by rw [e1, valL]; omega
        rw [e2, e3]
    · simp only
      rw [if_neg (by simp only [decide_eq_true_eq]; omega)]
      simp
    · rw [w64 (by omega) (by omega)]
      simp [digL_zero, valL]
theorem text_int {K n : Nat} (hn : n ≤ 10000000000000) (hK : n + 4 < K) : ((r01_Int K (n : Int)).bind fun r => r01_Text K r) = strconv_Itoa K (n : Int) := by
  rw [r01_Int_eq n hn (by omega), Option.bind_some]
  have hlen := limbs_len n
  rw [r01_Text_eq (limbs_lt n) (by rw [valL_limbs]; exact hn) (by omega) (by omega) (by omega), valL_limbs]
  have hi : Lib.itoa (n : Int) = Lib.decDigits n := by unfold Lib.itoa; rw [if_neg (by omega)]; simp
  have hs : strconv_Itoa K (n : Int) = some ⟨(Lib.decDigits n).toArray⟩ := by unfold strconv_Itoa; rw [if_pos (by omega), hi]
  rw [hs]
  by_cases h : n = 0
  · subst h
    rw [if_pos (by have := limbs_len 0; omega)]
    rw [Lib.decDigits_one (by omega)]; rfl
  · rw [if_neg (limbs_ne h), ← digL_dec h]; rfl
theorem itoa_long {n : Nat} (h : 1000000000000 ≤ n) : 13 ≤ (Lib.itoa (n : Int)).length := by
  have hi : Lib.itoa (n : Int) = Lib.decDigits n := by unfold Lib.itoa; rw [if_neg (by omega)]; simp
  rw [hi, Lib.decDigits_length]
  have h1 := Lib.lt_pow_nDigits n
  rcases Nat.lt_or_ge (Lib.nDigits n) 13 with h2 | h2
  · have h3 : 10 ^ Lib.nDigits n ≤ 10 ^ 12 := Nat.pow_le_pow_right (by omega) (by omega)
    have h4 : (10 : Nat) ^ 12 = 1000000000000 := by decide
    omega
  · exact h2
end Go.Proofs.YtngmfimpaembnaaGreatDoor
