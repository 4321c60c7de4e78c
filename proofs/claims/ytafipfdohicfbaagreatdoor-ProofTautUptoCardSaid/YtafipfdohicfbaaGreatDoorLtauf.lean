/- Part of the proof of a law: contracts of the functions that the law reaches, or plain laws of them, out of the abstract layer (the texts YtafipfdohicfbaaGreatDoorIso..). No condition. -/
import Derived.Test.YtafipfdohicfbaaGreatDoorCards
import Derived.JoinedCond
import GoSem.ClaimGoes
import Derived.Test.YtafipfdohicfbaaGreatDoorLtauf0
namespace Go.Proofs.YtafipfdohicfbaaGreatDoor
open Go
set_option maxRecDepth 100000
theorem proofTaut_fact0 : (Rows.proofTautUptoRow.wf (OpenSpec.ofChange (Rows.OpenSpec.upto Rows.proofTautSpec).bare)) = true := by kernel_rfl
theorem proofTaut_fact1 : (laidOutB Tryz.pinned.checked.prog) = true := by kernel_rfl
theorem proofTaut_fact2 : (mapsRowed Tryz.pinned.checked.prog) = true := by kernel_rfl
theorem proofTaut_fact3 : (Tryz.f3.params.all (Tryz.pinned.checked.prog.readableRec ·)) = true := by kernel_rfl
theorem proofTaut_fact4 : (namedTie Tryz.pinned.checked.prog Rows.proofTautUptoRow.named (Rows.OpenSpec.upto Rows.proofTautSpec).bare.vars) = true := by kernel_rfl
theorem proofTaut_fact5 : (Rows.proofTautUptoRow.stops == []) = true := by kernel_rfl
theorem proofTaut_fact6 : (Tryz.pinned.checked.prog.stops == []) = true := by kernel_rfl
theorem proofTaut_fact7 : (Rows.proofTautUptoRow.knobs == []) = true := by kernel_rfl
theorem proofTaut_fact8 : (Tryz.pinned.checked.prog.stopKnobs == []) = true := by kernel_rfl
theorem proofTaut_fact13 : (Rows.proofTautUptoRow.maps == (Tryz.f3.params.toList ++ (Rows.OpenSpec.upto Rows.proofTautSpec).bare.plain.varTypes Tryz.pinned.checked.prog).any (Tryz.pinned.checked.prog.mapsRec ·)) = true := by kernel_rfl
theorem proofTaut_fact14 : (Rows.proofTautUptoRow.ifaces == (Tryz.f3.params.toList ++ (Rows.OpenSpec.upto Rows.proofTautSpec).bare.plain.varTypes Tryz.pinned.checked.prog).any (Tryz.pinned.checked.prog.ifacesRec ·)) = true := by kernel_rfl
theorem proofTaut_fact15 : (Rows.proofTautUptoRow.mapsOut == Tryz.pinned.checked.prog.mapsAmong Tryz.f3.resultTypes.toList) = true := by kernel_rfl
theorem proofTaut_fact16 : (Rows.proofTautUptoRow.loops == (Tryz.f3.params.toList ++ (Rows.OpenSpec.upto Rows.proofTautSpec).bare.plain.varTypes Tryz.pinned.checked.prog).any (Tryz.pinned.checked.prog.loopsFrom ·)) = true := by kernel_rfl
theorem proofTaut_fact17 : (Rows.proofTautUptoRow.wideKeys == (Tryz.f3.params.toList ++ (Rows.OpenSpec.upto Rows.proofTautSpec).bare.plain.varTypes Tryz.pinned.checked.prog ++ Tryz.f3.resultTypes.toList).any (Tryz.pinned.checked.prog.wideKeysFrom ·)) = true := by kernel_rfl
theorem proofTaut_fact18 : ((Rows.OpenSpec.upto Rows.proofTautSpec).bare.vars.all (Tryz.pinned.checked.prog.varReadable ·)) = true := by kernel_rfl
theorem proofTaut_fact19 : (Tryz.f3.resultTypes.all (fun t => Tryz.pinned.checked.prog.readableRec t && decide (t < Tryz.pinned.checked.prog.types.size))) = true := by kernel_rfl
theorem proofTaut_fact20 : (Rows.proofTautUptoRow.ifacesOut == Tryz.f3.resultTypes.toList.any (Tryz.pinned.checked.prog.ifacesRec ·)) = true := by kernel_rfl
theorem proofTaut_fact21 : (Rows.proofTautUptoRow.loopsOut == Tryz.f3.resultTypes.toList.any (Tryz.pinned.checked.prog.loopsFrom ·)) = true := by kernel_rfl
theorem proofTaut_fact22 : (Rows.proofTautUptoRow.plainKeys == Tryz.pinned.checked.prog.plainKeys) = true := by kernel_rfl
theorem proofTaut_fact23 : (Rows.proofTautUptoRow.shortTexts.isNone) = true := by kernel_rfl
theorem proofTaut_fact24 : (Tryz.pinned.checked.prog.stopsHeard) = true := by kernel_rfl
theorem proofTaut_fact25 : (Tryz.pinned.checked.prog.mayEnter) = true := by kernel_rfl
theorem proofTaut_fact26 : (Rows.proofTautUptoRow.lifted == Tryz.pinned.checked.prog.liftsFinal) = true := by kernel_rfl
theorem proofTaut_fact27 : (Tryz.pinned.checked.prog.make == some Rows.proofTautUptoRow.make) = true := by kernel_rfl
theorem proofTaut_fact29 : (Rows.proofTautUptoRow.pinned == Rows.proofTautUptoRow.pinnedBy) = true := by kernel_rfl
theorem proofTaut_fact30 : (Rows.proofTautUptoRow.veiled == (Tryz.f3.params.toList ++ (Rows.OpenSpec.upto Rows.proofTautSpec).bare.plain.varTypes Tryz.pinned.checked.prog ++ Tryz.f3.resultTypes.toList).any (Tryz.pinned.checked.prog.veiledRec ·)) = true := by kernel_rfl
theorem proofTaut_fact31 : (Rows.proofTautUptoRow.veiledFits Tryz.pinned.checked.prog Tryz.f3.params.toList (Tryz.f3.params.toList ++ (Rows.OpenSpec.upto Rows.proofTautSpec).bare.plain.varTypes Tryz.pinned.checked.prog ++ Tryz.f3.resultTypes.toList)) = true := by kernel_rfl
theorem proofTaut_unf : Tryz.pinned.checked.prog.unfollowed 3 = true := by
 unfold Program.unfollowed
 rw [proofTaut_clo]
 kernel_rfl
theorem proofTaut_fact9 : (Rows.proofTautUptoRow.inPlace == Tryz.pinned.checked.prog.inPlace 3) = true := by
 unfold Program.inPlace
 rw [proofTaut_clo]
 kernel_rfl
theorem proofTaut_fact10 : (Rows.proofTautUptoRow.unfollowed == Tryz.pinned.checked.prog.unfollowed 3) = true := by
 rw [proofTaut_unf]
 kernel_rfl
theorem proofTaut_fact11 : (Rows.proofTautUptoRow.recurses == Tryz.pinned.checked.prog.recurses 3) = true := by
 unfold Program.recurses
 rw [proofTaut_unf]
 kernel_rfl
theorem proofTaut_fact12 : (Rows.proofTautUptoRow.named == Tryz.pinned.checked.prog.varsNamed 3) = true := by
 unfold Program.varsNamed
 rw [proofTaut_clo]
 kernel_rfl
theorem proofTaut_funcs : Tryz.pinned.checked.prog.funcs.any Func.goes = false := by kernel_rfl
theorem goes_of {c : OpenClaim} {P : Program} (hs : c.start = .entering) (hf : P.funcs.any Func.goes = false) : false = c.goesBy P := by
 have key : ∀ g : Nat, (P.funcs[g]?).any Func.goes = false := fun g => by
  cases h : P.funcs[g]? with
  | none => rfl
  | some fn =>
   cases h2 : fn.goes with
   | false => simp [h2]
   | true =>
    have : P.funcs.any Func.goes = true := Array.any_eq_true'.2 ⟨fn, Array.mem_of_getElem? h, h2⟩
    rw [this] at hf; cases hf
 have key2 : ∀ f, P.goes f = false := fun f => by
  unfold Program.goes
  rw [hf, Bool.and_false, Bool.or_false]
  simp [key]
 unfold OpenClaim.goesBy Program.goesAt Program.goesFrom
 rw [hs]
 cases P.funcNamed c.func with
 | none => rfl
 | some f => simp [key2]
theorem proofTaut_goes : false = Rows.proofTautUptoRow.goesBy Tryz.pinned.checked.prog := goes_of (by kernel_rfl) proofTaut_funcs
theorem proofTaut_closed : joinedFacts Tryz.pinned.checked.prog 3 Tryz.f3 (Rows.OpenSpec.upto Rows.proofTautSpec).bare Rows.proofTautUptoRow = true := by
 unfold joinedFacts
 simp only [proofTaut_fact0, proofTaut_fact1, proofTaut_fact2, proofTaut_fact3, proofTaut_fact4, proofTaut_fact5, proofTaut_fact6, proofTaut_fact7, proofTaut_fact8, proofTaut_fact9, proofTaut_fact10, proofTaut_fact11, proofTaut_fact12, proofTaut_fact13, proofTaut_fact14, proofTaut_fact15, proofTaut_fact16, proofTaut_fact17, proofTaut_fact18, proofTaut_fact19, proofTaut_fact20, proofTaut_fact21, proofTaut_fact22, proofTaut_fact23, proofTaut_fact24, proofTaut_fact25, proofTaut_fact26, proofTaut_fact27, proofTaut_fact29, proofTaut_fact30, proofTaut_fact31, Bool.and_self, Bool.and_true, Bool.true_and]
 kernel_rfl
end Go.Proofs.YtafipfdohicfbaaGreatDoor
