/- Part of the proof of a law: contracts of the functions that the law reaches, or plain laws of them, out of the abstract layer (the texts YtphmckfokdkecaaGreatIso..). No condition. -/
import Derived.Test.YtphmckfokdkecaaGreatShelf
import Derived.Test.YtphmckfokdkecaaGreatW
import Derived.Test.YtphmckfokdkecaaGreatIsoY
import Derived.Shelf.GgSortFunc.Tiny
import Derived.KernelRfl
namespace Go.Proofs.YtphmckfokdkecaaGreat
open Go Go.Iso Go.Proofs
set_option linter.unusedVariables false
theorem sort_callable : Callable Tryz.prog 176 := by
 obtain ⟨fn, h1, h2, h3⟩ : ∃ fn, Tryz.prog.funcs[176]? = some fn ∧ fn.body.isSome = true ∧ (fn.name == "runtime.NumGoroutine") = false := ⟨_, Tryz.func176, by kernel_rfl, by kernel_rfl⟩
 intro args w
 have h4 : ¬ fn.name = "runtime.NumGoroutine" := by simpa using h3
 obtain ⟨b, hb⟩ := Option.isSome_iff_exists.1 h2
 simp [callFunc, h1, hb, h4]
theorem sort_tiny : SortTiny Tryz.prog 176 37 := by
 refine ⟨sort_callable, fun a n c g caps w hn => ?_⟩
 have hke : ∀ w, (Extern.Rtype.kind 46).run Tryz.prog w = .ok 25 w := fun w => by kernel_rfl
 obtain ⟨i, hi⟩ := Option.isSome_iff_exists.1 (show (Tryz.prog.info? 37).isSome = true by kernel_rfl)
 obtain ⟨ie, hie⟩ := Option.isSome_iff_exists.1 (show (Tryz.prog.info? 46).isSome = true by kernel_rfl)
 have hd : (some i).map (·.desc) = some (.slice 46) := hi ▸ (show (Tryz.prog.info? 37).map (·.desc) = some (.slice 46) by kernel_rfl)
 have hd := Option.some.inj hd
 rcases (by omega : n = 0 ∨ n = 1) with rfl | rfl
 ·exact Any.sort_Slice_tiny Tryz.laysGg6 _ _ i ie hi hd (by kernel_rfl) hie 25 hke a 0 c (by omega) 189 (by kernel_rfl) _ _ _ w
 ·exact Any.sort_Slice_tiny Tryz.laysGg6 _ _ i ie hi hd (by kernel_rfl) hie 25 hke a 1 c (by omega) 190 (by kernel_rfl) _ _ _ w
def law13_awake (K : Nat) : Option Bool := some true
theorem awake_run : isTrue (evTop Tryz.prog (orcSort 176 37) 100000 6 []) = true := by kernel_rfl
theorem law13_awake_ok {K : Nat} {r : Bool} (h : law13_awake K = some r) : Cn Tryz.prog 6 [] (.d (.val (.bool r))) := by
 obtain rfl := Option.some.inj h
 exact Cn.ofTrue mixed (orcSort_ok sort_tiny) awake_run
end Go.Proofs.YtphmckfokdkecaaGreat
