/- Part of the proof of a law: contracts of the functions that the law reaches, or plain laws of them, out of the abstract layer (the texts YtngmfimpaembnaaGreatDoorIso..). No condition. -/
import Derived.Test.YtngmfimpaembnaaGreatDoorShelf
import Derived.Test.YtngmfimpaembnaaGreatDoorW
import Derived.Test.YtngmfimpaembnaaGreatDoorIsoQ
namespace Go.Proofs.YtngmfimpaembnaaGreatDoor
open Go Go.Iso Go.Proofs
set_option linter.unusedVariables false
def strconv_Itoa (K : Nat) (p0 : Int) : Option ByteArray := if 0 ≤ p0 ∧ p0 < 100 then some ⟨(Lib.decDigits p0.toNat).toArray⟩ else none
theorem strconv_Itoa_ok {K : Nat} {p0 : Int} {r : ByteArray} (h : strconv_Itoa K p0 = some r) : Cn Tryz.prog 49 [.d (.val (.int .i64 p0))] (.d (.val (.string r))) := by
  refine ⟨Tryz.call49, fun I w cargs hlt hA => ?_⟩
  unfold strconv_Itoa at h
  split at h
  · next h1 =>
    obtain rfl := Option.some.inj h
    obtain ⟨i, rfl⟩ : ∃ i : Nat, p0 = i := ⟨p0.toNat, by omega⟩
    have hc : cargs = #[.int .i64 (i : Int)] := by
      have h0 := (hA.rep 0 (by simp)).val rfl
      have hs := hA.size
      obtain ⟨l⟩ := cargs
      match l, hs with
      | [x], _ => simp at h0; rw [h0]
    subst hc
    refine Calls.mono (Tryz.strconv_Itoa_small i (by omega) w) ?_
    rintro e w' ⟨rfl, rfl⟩
    exact ⟨_, I, rfl, Pure.refl hlt, by rw [Int.toNat_natCast]; exact .d (.val _ (by
      have hl : ∀ i : Nat, i < 100 → (Lib.decDigits i).length ≤ 2 := by decide +kernel
      have := hl i (by omega)
      have e : (⟨(Lib.decDigits i).toArray⟩ : ByteArray).size = (Lib.decDigits i).length := by simp [ByteArray.size]
      show decide ((⟨(Lib.decDigits i).toArray⟩ : ByteArray).size ≤ 9223372036854775807) = true
      rw [e]; exact decide_eq_true (by omega)))⟩
  · cases h
end Go.Proofs.YtngmfimpaembnaaGreatDoor
