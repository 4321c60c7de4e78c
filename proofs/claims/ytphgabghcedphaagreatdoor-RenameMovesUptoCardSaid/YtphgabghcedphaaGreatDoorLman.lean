/- Part of the proof of a law: contracts of the functions that the law reaches, or plain laws of them, out of the abstract layer (the texts YtphgabghcedphaaGreatDoorIso..). No condition. -/
import Derived.Test.YtphgabghcedphaaGreatDoorShelf
import Derived.Test.YtphgabghcedphaaGreatDoorW
import Derived.Test.YtphgabghcedphaaGreatDoorIsoF
namespace Go.Proofs.YtphgabghcedphaaGreatDoor
open Go Go.Iso Go.Proofs
set_option linter.unusedVariables false
theorem nDigits_short : ∀ {u : Nat}, u ≤ 9223372036854775808 → Lib.nDigits u ≤ 19 := by
 intro u h
 by_cases h0 : u = 0
 ·subst h0; rw [Lib.nDigits_small (by omega)]; omega
 rcases Nat.lt_or_ge 19 (Lib.nDigits u) with h1 | h1
 ·exfalso
  have h2 : 10 ^ (Lib.nDigits u - 1) ≤ u := by
   clear h h1
   induction u using Nat.strongRecOn with
   | _ u ih =>
    by_cases hu : u < 10
    ·rw [Lib.nDigits_small hu]; omega
    ·rw [Lib.nDigits_big hu]
     have := ih (u / 10) (by omega) (by omega)
     have hp := Lib.nDigits_pos (u / 10)
     obtain ⟨m, hm⟩ : ∃ m, Lib.nDigits (u / 10) = m + 1 := ⟨Lib.nDigits (u / 10) - 1, by omega⟩
     rw [hm] at this ⊢
     simp only [Nat.add_sub_cancel] at this ⊢
     rw [Nat.pow_succ]; omega
  have h3 : (10 : Nat) ^ 19 ≤ 10 ^ (Lib.nDigits u - 1) := Nat.pow_le_pow_right (by omega) (by omega)
  have h4 : (10 : Nat) ^ 19 = 10000000000000000000 := by decide
  omega
 ·exact h1
theorem itoa_short {n : Int} (h : -9223372036854775808 ≤ n ∧ n ≤ 9223372036854775807) : (Lib.itoa n).length ≤ 20 := by
 unfold Lib.itoa; split
 ·rw [List.length_cons, Lib.decDigits_length]; have := nDigits_short (u := n.natAbs) (by omega); omega
 ·rw [Lib.decDigits_length]; have := nDigits_short (u := n.toNat) (by omega); omega
def strconv_Itoa (K : Nat) (p0 : Int) : Option ByteArray := if -9223372036854775808 ≤ p0 ∧ p0 ≤ 9223372036854775807 then some ⟨(Lib.itoa p0).toArray⟩ else none
theorem strconv_Itoa_ok {K : Nat} {p0 : Int} {r : ByteArray} (h : strconv_Itoa K p0 = some r) : Cn Tryz.prog 115 [.d (.val (.int .i64 p0))] (.d (.val (.string r))) := by
 refine ⟨Tryz.call115, fun I w cargs hb hA => ?_⟩
 unfold strconv_Itoa at h
 split at h
 ·next h1 =>
  obtain rfl := Option.some.inj h
  have hc : cargs = #[.int .i64 p0] := by
   have h0 := (hA.rep 0 (by simp)).val rfl
   have hs := hA.size
   obtain ⟨l⟩ := cargs
   match l, hs with
   | [x], _ => simp at h0; rw [h0]
  subst hc
  refine Calls.mono (Tryz.strconv_Itoa p0 h1.1 h1.2 w (glb_pow10 hb.known)) ?_
  rintro e w' ⟨rfl, k, os, rfl⟩
  refine ⟨_, I, rfl, ?_, .d (.val _ ?_)⟩
  ·exact ⟨⟨rfl, rfl, rfl, by simp [Sort.grow, World.drewN], fun j hj => by simp [Sort.grow, World.drewN, Array.getElem?_append, hj]⟩, fun _ h => h, fun _ h => .inl h, fun b hI => by
    have := hb.lt b hI; simp [Sort.grow, World.drewN]; omega⟩
  ·show decide ((⟨(Lib.itoa p0).toArray⟩ : ByteArray).size ≤ 9223372036854775807) = true
   have e : (⟨(Lib.itoa p0).toArray⟩ : ByteArray).size = (Lib.itoa p0).length := by simp [ByteArray.size]
   rw [e]; exact decide_eq_true (by have := itoa_short h1; omega)
 ·cases h
end Go.Proofs.YtphgabghcedphaaGreatDoor
