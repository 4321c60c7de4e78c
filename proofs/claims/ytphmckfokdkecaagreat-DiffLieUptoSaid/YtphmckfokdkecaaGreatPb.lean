/- Part of the proof of a law: contracts of the functions that the law reaches, or plain laws of them, out of the abstract layer (the texts YtphmckfokdkecaaGreatIso..). No condition. -/
import Derived.Test.YtphmckfokdkecaaGreatW
import Derived.Test.YtphmckfokdkecaaGreatIsoF
import Derived.Test.YtphmckfokdkecaaGreatLman
import Derived.Test.YtphmckfokdkecaaGreatShelf
import Derived.Test.YtphmckfokdkecaaGreatIsoY
import Derived.Test.YtphmckfokdkecaaGreatPa
open Nat (reduceEqDiff reduceAdd reduceSub reduceMul reduceLeDiff reduceLT)
namespace Go.Proofs.YtphmckfokdkecaaGreat
open Go Go.Iso Go.Proofs
set_option linter.unusedSimpArgs false
set_option linter.unusedVariables false
set_option maxRecDepth 100000
/-! ### isochrone/isochroneref01.Split -/
def r01_Split (K : Nat) (p0 : List Int) (p1 : Int) : Option ((List Int) × Int) := (makO 8 (p0.length : Int) (0 : Int)).bind fun l1 =>
 ((iter (S := Int × Int × (List Int)) (R := (Int × (List Int))) K (fun again (i3_0, i3_1, i3_2) =>
  if (decide ((0 : Int) ≤ i3_1)) then
   (idx p0 i3_1).bind fun x8 =>
   (must (p1 != 0)).bind fun z10 =>
   (idx i3_2 i3_1).bind fun x12 =>
   (must (p1 != 0)).bind fun z14 =>
   again ((IntKind.wrap .i64 ((IntKind.wrap .i64 (i3_0 * (10000 : Int))) + x8)).tmod p1, IntKind.wrap .i64 (i3_1 - (1 : Int)), (i3_2.set (i3_1.toNat) (IntKind.wrap .i64 ((IntKind.wrap .i64 ((IntKind.wrap .i64 (i3_0 * (10000 : Int))) + x8)).tdiv p1))))
  else
   some (i3_0, i3_2)) ((0 : Int), IntKind.wrap .i64 ((p0.length : Int) - (1 : Int)), l1)) : Option (Int × (List Int))).bind (fun (e4_0, e4_1) =>
 (r01_trim K e4_1).bind fun r16 =>
 some (r16, e4_0))
set_option maxHeartbeats 4000000 in
theorem r01_Split_ok {K : Nat} {p0 : List Int} {p1 : Int} {r : (List Int) × Int} (h : r01_Split K p0 p1 = some r) : Cn Tryz.prog 122 [.d (slD i64V p0), .d (.val (.int .i64 p1))] (.tup [.d (slD i64V r.1), .d (.val (.int .i64 r.2))]) := by
 refine Cn.ofA mixed Tryz.func122 rfl Tryz.call122 Tryz.ntmps122 Tryz.results122 (by simp) (by simp only [go_sem, reduceEqDiff, reduceAdd, reduceSub, reduceMul, reduceLeDiff, reduceLT, Nat.reduceBEq, reduceIte]) fun hfit => ?_
 unfold r01_Split at h
 refine AW.kp [] [0, 1] ?_
 refine AW.op mixed ?_
 refine AW.kp [] [0, 1] ?_
 refine AW.op mixed ?_
 apply obindE h; intro l1 hx2 h
 refine makG (f := i64V) hx2 (nz ?_) ?_
 ·exact ⟨.same _, trivial⟩
 try simp only [go_sem, reduceEqDiff, reduceAdd, reduceSub, reduceMul, reduceLeDiff, reduceLT, Nat.reduceBEq, reduceIte]
 refine AW.cu [2] [(0, .d (slD i64V p0)), (1, .d (.val (.int .i64 p1))), (6, .msl 0 1 0 (l1.length))] [some ⟨1, (l1.map i64V).map (·.map .d)⟩] ?_
 refine AW.op mixed ?_
 refine AW.cu [0] [(0, .d (slD i64V p0)), (1, .d (.val (.int .i64 p1))), (6, .msl 0 1 0 (l1.length)), (7, .d (.val (.int .i64 (0 : Int))))] [some ⟨1, (l1.map i64V).map (·.map .d)⟩] ?_
 refine AW.one ?_
 refine AW.op mixed ?_
 refine AW.cu [0] [(0, .d (slD i64V p0)), (1, .d (.val (.int .i64 p1))), (6, .msl 0 1 0 (l1.length)), (7, .d (.val (.int .i64 (0 : Int)))), (8, .d (.val (.int .i64 (IntKind.wrap .i64 ((p0.length : Int) - (1 : Int))))))] [some ⟨1, (l1.map i64V).map (·.map .d)⟩] ?_
 refine obindE h fun oJ6 h hJ6 => ?_
 refine AW.join (S := Int × (List Int)) (fun (e4_0, e4_1) => [(6, .msl 0 1 0 (e4_1.length)), (7, .d (.val (.int .i64 e4_0)))]) (fun (e4_0, e4_1) => [some ⟨1, (e4_1.map i64V).map (·.map .d)⟩]) (fun x => x = oJ6) ?_ ?_
 ·refine AW.block ?_
  refine AW.iter (S := Int × Int × (List Int)) (fun (i3_0, i3_1, i3_2) => [(0, .d (slD i64V p0)), (1, .d (.val (.int .i64 p1))), (6, .msl 0 1 0 (i3_2.length)), (7, .d (.val (.int .i64 i3_0))), (8, .d (.val (.int .i64 i3_1)))]) (fun (i3_0, i3_1, i3_2) => [some ⟨1, (i3_2.map i64V).map (·.map .d)⟩]) [0] h (by simp only [go_sem, reduceEqDiff, reduceAdd, reduceSub, reduceMul, reduceLeDiff, reduceLT, Nat.reduceBEq, reduceIte]) ?_
  rintro again ⟨i3_0, i3_1, i3_2⟩ h
  try dsimp only at h
  refine AW.one ?_
  refine AW.op mixed ?_
  refine AW.cu [0] [(0, .d (slD i64V p0)), (1, .d (.val (.int .i64 p1))), (6, .msl 0 1 0 (i3_2.length)), (7, .d (.val (.int .i64 i3_0))), (8, .d (.val (.int .i64 i3_1))), (16, .d (.val (.bool (decide ((0 : Int) ≤ i3_1)))))] [some ⟨1, (i3_2.map i64V).map (·.map .d)⟩] ?_
  refine AW.ts (decide ((0 : Int) ≤ i3_1)) (fun hb7 => ?_) (fun hb7 => ?_)
  ·have h := ifT hb7 h
   refine AW.sk ?_
   refine AW.cu [0] [(0, .d (slD i64V p0)), (1, .d (.val (.int .i64 p1))), (6, .msl 0 1 0 (i3_2.length)), (7, .d (.val (.int .i64 i3_0))), (8, .d (.val (.int .i64 i3_1)))] [some ⟨1, (i3_2.map i64V).map (·.map .d)⟩] ?_
   refine AW.one ?_
   refine AW.block ?_
   refine AW.one ?_
   refine AW.reg mixed (by kernel_rfl) ?_
   apply obindE h; intro x8 hx9 h
   try simp only [go_sem, reduceEqDiff, reduceAdd, reduceSub, reduceMul, reduceLeDiff, reduceLT, Nat.reduceBEq, reduceIte, (idx_some hx9).1, (idx_some hx9).2]
   refine AW.cut [0] [(0, .d (slD i64V p0)), (1, .d (.val (.int .i64 p1))), (6, .msl 0 1 0 (i3_2.length)), (7, .d (.val (.int .i64 (IntKind.wrap .i64 ((IntKind.wrap .i64 (i3_0 * (10000 : Int))) + x8))))), (8, .d (.val (.int .i64 i3_1)))] [some ⟨1, (i3_2.map i64V).map (·.map .d)⟩] (by simp only [go_sem, reduceEqDiff, reduceAdd, reduceSub, reduceMul, reduceLeDiff, reduceLT, Nat.reduceBEq, reduceIte, (idx_some hx9).1, (idx_some hx9).2]) ?_
   refine AW.one ?_
   refine AW.reg mixed (by kernel_rfl) ?_
   apply obindE h; intro z10 hx11 h
   try simp only [go_sem, reduceEqDiff, reduceAdd, reduceSub, reduceMul, reduceLeDiff, reduceLT, Nat.reduceBEq, reduceIte, bop_quo (P := Tryz.prog) (must_ne hx11)]
   apply obindE h; intro x12 hx13 h
   try simp only [go_sem, reduceEqDiff, reduceAdd, reduceSub, reduceMul, reduceLeDiff, reduceLT, Nat.reduceBEq, reduceIte, bop_quo (P := Tryz.prog) (must_ne hx11), (idx_some hx13).1, idx_lt hx13, (idx_some hx13).2, List.length_set, (rows_set (l := i3_2) (f := i64V) (i := i3_1.toNat) (v' := IntKind.wrap .i64 ((IntKind.wrap .i64 ((IntKind.wrap .i64 (i3_0 * (10000 : Int))) + x8)).tdiv p1)) (row := [.d (.val (.int .i64 (IntKind.wrap .i64 ((IntKind.wrap .i64 ((IntKind.wrap .i64 (i3_0 * (10000 : Int))) + x8)).tdiv p1))))]) (by simp only [go_sem, reduceEqDiff, reduceAdd, reduceSub, reduceMul, reduceLeDiff, reduceLT, Nat.reduceBEq, reduceIte]))]
   refine AW.cut [0] [(0, .d (slD i64V p0)), (1, .d (.val (.int .i64 p1))), (6, .msl 0 1 0 ((i3_2.set (i3_1.toNat) (IntKind.wrap .i64 ((IntKind.wrap .i64 ((IntKind.wrap .i64 (i3_0 * (10000 : Int))) + x8)).tdiv p1))).length)), (7, .d (.val (.int .i64 (IntKind.wrap .i64 ((IntKind.wrap .i64 (i3_0 * (10000 : Int))) + x8))))), (8, .d (.val (.int .i64 i3_1)))] [some ⟨1, ((i3_2.set (i3_1.toNat) (IntKind.wrap .i64 ((IntKind.wrap .i64 ((IntKind.wrap .i64 (i3_0 * (10000 : Int))) + x8)).tdiv p1))).map i64V).map (·.map .d)⟩] (by simp only [go_sem, reduceEqDiff, reduceAdd, reduceSub, reduceMul, reduceLeDiff, reduceLT, Nat.reduceBEq, reduceIte, bop_quo (P := Tryz.prog) (must_ne hx11), (idx_some hx13).1, idx_lt hx13, (idx_some hx13).2, List.length_set, (rows_set (l := i3_2) (f := i64V) (i := i3_1.toNat) (v' := IntKind.wrap .i64 ((IntKind.wrap .i64 ((IntKind.wrap .i64 (i3_0 * (10000 : Int))) + x8)).tdiv p1)) (row := [.d (.val (.int .i64 (IntKind.wrap .i64 ((IntKind.wrap .i64 ((IntKind.wrap .i64 (i3_0 * (10000 : Int))) + x8)).tdiv p1))))]) (by simp only [go_sem, reduceEqDiff, reduceAdd, reduceSub, reduceMul, reduceLeDiff, reduceLT, Nat.reduceBEq, reduceIte]))]) ?_
   refine AW.reg mixed (by kernel_rfl) ?_
   apply obindE h; intro z14 hx15 h
   try simp only [go_sem, reduceEqDiff, reduceAdd, reduceSub, reduceMul, reduceLeDiff, reduceLT, Nat.reduceBEq, reduceIte, bop_rem (P := Tryz.prog) (must_ne hx15)]
   refine AW.cut [0] [(0, .d (slD i64V p0)), (1, .d (.val (.int .i64 p1))), (6, .msl 0 1 0 ((i3_2.set (i3_1.toNat) (IntKind.wrap .i64 ((IntKind.wrap .i64 ((IntKind.wrap .i64 (i3_0 * (10000 : Int))) + x8)).tdiv p1))).length)), (7, .d (.val (.int .i64 ((IntKind.wrap .i64 ((IntKind.wrap .i64 (i3_0 * (10000 : Int))) + x8)).tmod p1)))), (8, .d (.val (.int .i64 i3_1)))] [some ⟨1, ((i3_2.set (i3_1.toNat) (IntKind.wrap .i64 ((IntKind.wrap .i64 ((IntKind.wrap .i64 (i3_0 * (10000 : Int))) + x8)).tdiv p1))).map i64V).map (·.map .d)⟩] (by simp only [go_sem, reduceEqDiff, reduceAdd, reduceSub, reduceMul, reduceLeDiff, reduceLT, Nat.reduceBEq, reduceIte, bop_rem (P := Tryz.prog) (must_ne hx15)]) ?_
   refine AW.rg mixed ?_
   exact NextQ.ar ((IntKind.wrap .i64 ((IntKind.wrap .i64 (i3_0 * (10000 : Int))) + x8)).tmod p1, IntKind.wrap .i64 (i3_1 - (1 : Int)), (i3_2.set (i3_1.toNat) (IntKind.wrap .i64 ((IntKind.wrap .i64 ((IntKind.wrap .i64 (i3_0 * (10000 : Int))) + x8)).tdiv p1)))) [0] h
  have h := ifF hb7 h
  refine AW.ex ?_
  exact JoinQ.ar (i3_0, i3_2) [0] (Option.some.inj h)
 rintro ⟨e4_0, e4_1⟩ rfl
 have h := hJ6
 try dsimp only [Out.fin] at h
 refine nz ?_
 refine AW.cu [0] [(6, .msl 0 1 0 (e4_1.length)), (7, .d (.val (.int .i64 e4_0)))] [some ⟨1, (e4_1.map i64V).map (·.map .d)⟩] ?_
 refine AW.op mixed ?_
 apply obindE h; intro r16 hx17 h
 have hc := nx (r01_trim_ok (h := hx17))
 refine callK_seal [0] hc ⟨sealArr (by simp only [go_sem, reduceEqDiff, reduceAdd, reduceSub, reduceMul, reduceLeDiff, reduceLT, Nat.reduceBEq, reduceIte]), trivial⟩ (by simp only [go_sem, reduceEqDiff, reduceAdd, reduceSub, reduceMul, reduceLeDiff, reduceLT, Nat.reduceBEq, reduceIte]) (by simp only [go_sem, reduceEqDiff, reduceAdd, reduceSub, reduceMul, reduceLeDiff, reduceLT, Nat.reduceBEq, reduceIte]) ?_
 try simp only [go_sem, reduceEqDiff, reduceAdd, reduceSub, reduceMul, reduceLeDiff, reduceLT, Nat.reduceBEq, reduceIte]
 refine AW.ret ?_
 obtain rfl := Option.some.inj h
 refine nz ?_
 exact .same _
/-! ### isochrone/isochroneref01.Words -/
def r01_Words (K : Nat) (p0 : List Int) : Option (List Int) := ((iter (S := (List Int) × (List Int)) (R := (List Int)) K (fun again (i1_0, i1_1) =>
  if (decide ((0 : Int) < (i1_0.length : Int))) then
   (r01_Split K i1_0 (65536 : Int)).bind fun r6 =>
   (appO 8 i1_1 [r6.2]).bind fun l8 =>
   again (r6.1, l8)
  else
   some i1_1) (p0, [])) : Option (List Int)).bind (fun e2_0 =>
 ((iter (S := Int × (List Int)) (R := (List Int)) K (fun again (i10_0, i10_1) =>
  if (decide (i10_0 < (e2_0.length : Int))) then
   ((
    (idx e2_0 i10_0).bind fun x17 =>
    ((
     if (decide ((IntKind.wrap .i64 (i10_0 + (1 : Int))) < (e2_0.length : Int))) then
      (idx e2_0 (IntKind.wrap .i64 (i10_0 + (1 : Int)))).bind fun x22 =>
      (must (decide ((0 : Int) ≤ (16 : Int)))).bind fun _ =>
      some (IntKind.wrap .u32 ((IntKind.wrap .u32 x17) + (bShl .u32 (IntKind.wrap .u32 x22) (16 : Int))))
     else
      some (IntKind.wrap .u32 x17)) : Option Int).bind (fun v19_0 =>
    (appO 4 i10_1 [v19_0]).bind fun l25 =>
    some l25)) : Option (List Int)).bind (fun v15_0 =>
   again (IntKind.wrap .i64 (i10_0 + (2 : Int)), v15_0))
  else
   some i10_1) ((0 : Int), [])) : Option (List Int)).bind (fun e11_0 =>
 some e11_0))
set_option maxHeartbeats 4000000 in
theorem r01_Words_ok {K : Nat} {p0 : List Int} {r : (List Int)} (h : r01_Words K p0 = some r) : Cn Tryz.prog 84 [.d (slD i64V p0)] (.d (slD u32V r)) := by
 have q0 := fun k z => cv_int (k' := k) (z := z) Tryz.underlying3 Tryz.underlying64
 refine Cn.oz Tryz.func84 Tryz.call84 Tryz.ntmps84 Tryz.results84 fun hfit => ?_
 unfold r01_Words at h
 refine AW.kr [] [0] ?_
 refine AW.kr [] [0] ?_
 refine AW.ks [] [0, 3] ?_
 refine AW.ln h (fun e2_0 => [(3, accV 0 1 ((e2_0.map i64V).map (·.map .d)))]) (fun e2_0 => [accO 1 ((e2_0.map i64V).map (·.map .d))]) (fun (i1_0, i1_1) => [(0, vL i64V i1_0), (3, accV 0 1 ((i1_1.map i64V).map (·.map .d)))]) (fun (i1_0, i1_1) => [accO 1 ((i1_1.map i64V).map (·.map .d))]) [1000] (fun oJ4 again ⟨i1_0, i1_1⟩ h => ?_) fun e2_0 h => ?_
 ·try dsimp only at h
  refine AW.one ?_
  refine AW.ro ?_
  refine AW.ks [0] [0, 3, 11] ?_
  refine AW.tt h (fun hb5 h => ?_) fun hb5 h => ?_
  ·refine AW.sk ?_
   refine AW.ks [0] [0, 3] ?_
   refine AW.block ?_
   refine AW.ro ?_
   refine cm h r01_Split_ok fun r6 hx7 h => ?_
   refine AW.kr [0] [3, 4, 5] ?_
   refine ag (f := i64V) h fun l8 hx9 h => ?_
   refine AW.ks [4] [3, 4] ?_
   refine AW.rp ?_
   exact na [0] h
  refine AW.ex ?_
  exact ja [0] h
 refine AW.kr [0] [3] ?_
 refine AW.ks [0] [3, 6] ?_
 refine AW.one ?_
 refine AW.ro ?_
 refine AW.ks [0] [3, 6, 7] ?_
 refine AW.lm h (fun e11_0 => [(6, accV 0 1 ((e11_0.map u32V).map (·.map .d)))]) (fun e11_0 => [accO 1 ((e11_0.map u32V).map (·.map .d))]) (fun (i10_0, i10_1) => [(3, accV 0 1 ((e2_0.map i64V).map (·.map .d))), (6, accV 1 1 ((i10_1.map u32V).map (·.map .d))), (7, vI i10_0)]) (fun (i10_0, i10_1) => [accO 1 ((e2_0.map i64V).map (·.map .d)), accO 1 ((i10_1.map u32V).map (·.map .d))]) [0, 1001] (fun oJ13 again ⟨i10_0, i10_1⟩ h => ?_) fun e11_0 h => ?_
 ·try dsimp only at h
  refine AW.one ?_
  refine AW.ro ?_
  refine AW.ks [0, 1] [3, 6, 7, 25] ?_
  refine AW.tt h (fun hb14 h => ?_) fun hb14 h => ?_
  ·refine AW.sk ?_
   refine AW.ks [0, 1] [3, 6, 7] ?_
   refine AW.jn h (fun v15_0 => [(3, accV 0 1 ((e2_0.map i64V).map (·.map .d))), (6, accV 1 1 ((v15_0.map u32V).map (·.map .d))), (7, vI i10_0)]) (fun v15_0 => [accO 1 ((e2_0.map i64V).map (·.map .d)), accO 1 ((v15_0.map u32V).map (·.map .d))]) (fun oJ16 h => ?_) fun v15_0 h => ?_
   ·refine AW.block ?_
    refine AW.ro ?_
    refine bi h fun x17 h0 h1 h2 h3 h4 h => ?_
    refine AW.ks [0, 1] [3, 6, 7, 8] ?_
    refine AW.jn h (fun v19_0 => [(3, accV 0 1 ((e2_0.map i64V).map (·.map .d))), (6, accV 1 1 ((i10_1.map u32V).map (·.map .d))), (7, vI i10_0), (8, .d (.val (.int .u32 v19_0)))]) (fun v19_0 => [accO 1 ((e2_0.map i64V).map (·.map .d)), accO 1 ((i10_1.map u32V).map (·.map .d))]) (fun oJ20 h => ?_) fun v19_0 h => ?_
    ·refine AW.ro ?_
     refine AW.ks [0, 1] [3, 6, 7, 8, 37] ?_
     refine AW.tk h (fun hb21 h => ?_) fun hb21 h => ?_
     ·refine AW.rp ?_
      refine bi h fun x22 h0 h1 h2 h3 h4 h => ?_
      apply bE h; intro _ hx24 h; have hx24 := ml hx24; refine ns ?_
      exact ja [0, 1] h
     exact ja [0, 1] h
    refine AW.rp ?_
    refine ag (f := u32V) h fun l25 hx26 h => ?_
    exact ja [0, 5] h
   refine AW.rp ?_
   exact na [0, 1] h
  refine AW.ex ?_
  exact ja [1] h
 refine AW.kr [0] [6] ?_
 refine AW.ret ?_
 cases h; refine nz ?_; exact sealAcc (by simp only [go_sem, reduceEqDiff, reduceAdd, reduceSub, reduceMul, reduceLeDiff, reduceLT, Nat.reduceBEq, reduceIte])
/-! ### isochrone/isochroneref02.To -/
def r02_To (K : Nat) (p0 : Isochroneref02_RatA) : Option RatA := (r01_Words K p0.n).bind fun r1 =>
 (r01_Words K p0.d).bind fun r3 =>
 some (RatA.mk p0.neg r1 r3)
set_option maxHeartbeats 4000000 in
theorem r02_To_ok {K : Nat} {p0 : Isochroneref02_RatA} {r : RatA} (h : r02_To K p0 = some r) : Cn Tryz.prog 46 [aggV p0.enc] (aggV r.enc) := by
 refine Cn.oz Tryz.func46 Tryz.call46 Tryz.ntmps46 Tryz.results46 fun hfit => ?_
 unfold r02_To at h
 refine AW.kr [] [0] ?_
 refine AW.kr [0, 1] [1, 2] ?_
 refine pm h r01_Words_ok fun r1 hx2 h => ?_
 refine pm h r01_Words_ok fun r3 hx4 h => ?_
 refine AW.ret ?_
 cases h; refine nz ?_; exact .same _
/-! ### isochrone/isochroneref08.Num -/
def r08_Num (K : Nat) (p0 : Int) : Option NodeA := (r02_Int K p0).bind fun r1 =>
 (r02_To K r1).bind fun r3 =>
 some (NodeA.mk (1 : Int) (⟨#[]⟩ : ByteArray) r3 [])
set_option maxHeartbeats 4000000 in
theorem r08_Num_ok {K : Nat} {p0 : Int} {r : NodeA} (h : r08_Num K p0 = some r) : Cn Tryz.prog 54 [.d (.val (.int .i64 p0))] (aggV r.enc) := by
 refine Cn.oz Tryz.func54 Tryz.call54 Tryz.ntmps54 Tryz.results54 fun hfit => ?_
 unfold r08_Num at h
 refine AW.kr [] [0] ?_
 refine AW.kr [0] [0, 2] ?_
 refine cm h r02_Int_ok fun r1 hx2 h => ?_
 refine cm h r02_To_ok fun r3 hx4 h => ?_
 refine AW.ret ?_
 cases h; refine nz ?_; exact .aggL ⟨.same _, .same _, .same _, .same _, .same _, .nil, trivial⟩
/-! ### isochrone/isochroneref08.One -/
def r08_One (K : Nat) (p0 : Int) (p1 : NodeA) : Option NodeA := some (NodeA.mk p0 (⟨#[]⟩ : ByteArray) (RatA.mk false [] []) [p1])
set_option maxHeartbeats 4000000 in
theorem r08_One_ok {K : Nat} {p0 : Int} {p1 : NodeA} {r : NodeA} (h : r08_One K p0 p1 = some r) : Cn Tryz.prog 55 [.d (.val (.int .i64 p0)), aggV p1.enc] (aggV r.enc) := by
 refine Cn.oz Tryz.func55 Tryz.call55 Tryz.ntmps55 Tryz.results55 fun hfit => ?_
 unfold r08_One at h
 refine AW.kr [] [0, 1] ?_
 refine AW.kr [0, 1] [0, 3, 4] ?_
 refine AW.ret ?_
 cases h; refine nz ?_; exact .aggL ⟨.same _, .same _, .same _, .nil, .nil, .d (.dn (.rows ⟨(nilL_eq (by simp only [go_sem, reduceEqDiff, reduceAdd, reduceSub, reduceMul, reduceLeDiff, reduceLT, Nat.reduceBEq, reduceIte])), trivial⟩)), trivial⟩
/-! ### isochrone/isochroneref08.Two -/
def r08_Two (K : Nat) (p0 : Int) (p1 : NodeA) (p2 : NodeA) : Option NodeA := some (NodeA.mk p0 (⟨#[]⟩ : ByteArray) (RatA.mk false [] []) [p1, p2])
set_option maxHeartbeats 4000000 in
theorem r08_Two_ok {K : Nat} {p0 : Int} {p1 : NodeA} {p2 : NodeA} {r : NodeA} (h : r08_Two K p0 p1 p2 = some r) : Cn Tryz.prog 15 [.d (.val (.int .i64 p0)), aggV p1.enc, aggV p2.enc] (aggV r.enc) := by
 refine Cn.oz Tryz.func15 Tryz.call15 Tryz.ntmps15 Tryz.results15 fun hfit => ?_
 unfold r08_Two at h
 refine AW.kr [] [0, 1, 2] ?_
 refine AW.kr [0, 1, 2] [0, 4, 5, 6] ?_
 refine AW.ret ?_
 cases h; refine nz ?_; exact .aggL ⟨.same _, .same _, .same _, .nil, .nil, .d (.dn (.rows ⟨(nilL_eq (by simp only [go_sem, reduceEqDiff, reduceAdd, reduceSub, reduceMul, reduceLeDiff, reduceLT, Nat.reduceBEq, reduceIte])), (nilL_eq (by simp only [go_sem, reduceEqDiff, reduceAdd, reduceSub, reduceMul, reduceLeDiff, reduceLT, Nat.reduceBEq, reduceIte])), trivial⟩)), trivial⟩
/-! ### isochrone/isochroneref13.Derive -/
def r13_Derive_body (K : Nat) (self27 : NodeA → Option (NodeA × Bool)) (p0 : NodeA) : Option (NodeA × Bool) := ((iter (S := Int × (List NodeA)) (R := Out (List NodeA) _) K (fun again (i1_0, i1_1) =>
  if (decide (i1_0 < (p0.kids.length : Int))) then
   ((
    (idx p0.kids i1_0).bind fun x8 =>
    ((
     ((
      if (i1_0 == (1 : Int)) then
       if (p0.op == (8 : Int)) then
        some true
       else
        some (p0.op == (9 : Int))
      else
       some false) : Option Bool).bind (fun v12_0 =>
     if v12_0 then
      outM (
       outM (
        some (.go i1_1)))
     else
      some (.go ()))) : Option (Out Unit _)).bind (Out.fin fun _ =>
    ((
     ((
      if (p0.op == (12 : Int)) then
       some true
      else
       some (p0.op == (10 : Int))) : Option Bool).bind (fun v19_0 =>
     if v19_0 then
      outM (
       outM (
        outM (
         some ((NodeA.mk (0 : Int) (⟨#[]⟩ : ByteArray) (RatA.mk false [] []) []), false))))
     else
      some (.go ()))) : Option (Out Unit _)).bind (Out.fin fun _ =>
    (self27 (x8)).bind fun r23 =>
    if (!r23.2) then
     outM (
      outM (
       some ((NodeA.mk (0 : Int) (⟨#[]⟩ : ByteArray) (RatA.mk false [] []) []), false)))
    else
     (appO 104 i1_1 [r23.1]).bind fun l26 =>
     some (.go l26)))) : Option (Out (List NodeA) _)).bind (Out.fin fun v6_0 =>
   again (IntKind.wrap .i64 (i1_0 + (1 : Int)), v6_0))
  else
   some (.go i1_1)) ((0 : Int), [])) : Option (Out (List NodeA) _)).bind (Out.fin fun e2_0 =>
 ((
  ((
   if (p0.op == (1 : Int)) then
    some (p0.op == (1 : Int))
   else
    some (p0.op == (10 : Int))) : Option Bool).bind (fun v30_0 =>
  if v30_0 then
   (r08_Num K (0 : Int)).bind fun r34 =>
   outM (
    some (r34, true))
  else
   if (p0.op == (2 : Int)) then
    outM (
     some ((NodeA.mk (3 : Int) p0.name (RatA.mk false [] []) []), true))
   else
    if (p0.op == (4 : Int)) then
     (idx e2_0 (0 : Int)).bind fun x38 =>
     (r08_One K (4 : Int) x38).bind fun r40 =>
     outM (
      some (r40, true))
    else
     ((
      if (p0.op == (5 : Int)) then
       some (p0.op == (5 : Int))
      else
       some (p0.op == (6 : Int))) : Option Bool).bind (fun v42_0 =>
     if v42_0 then
      (idx e2_0 (0 : Int)).bind fun x46 =>
      (idx e2_0 (1 : Int)).bind fun x48 =>
      (r08_Two K p0.op x46 x48).bind fun r50 =>
      outM (
       some (r50, true))
     else
      if (p0.op == (7 : Int)) then
       (idx e2_0 (0 : Int)).bind fun x53 =>
       (idx p0.kids (1 : Int)).bind fun x55 =>
       (r08_Two K (7 : Int) x53 x55).bind fun r57 =>
       (idx p0.kids (0 : Int)).bind fun x59 =>
       (idx e2_0 (1 : Int)).bind fun x61 =>
       (r08_Two K (7 : Int) x59 x61).bind fun r63 =>
       (r08_Two K (5 : Int) r57 r63).bind fun r65 =>
       outM (
        some (r65, true))
      else
       if (p0.op == (8 : Int)) then
        (idx e2_0 (0 : Int)).bind fun x68 =>
        (idx p0.kids (1 : Int)).bind fun x70 =>
        (r08_Two K (8 : Int) x68 x70).bind fun r72 =>
        outM (
         some (r72, true))
       else
        if (p0.op == (9 : Int)) then
         (r08_Exponent K p0).bind fun r75 =>
         if (r75 == (0 : Int)) then
          (r08_Num K (0 : Int)).bind fun r78 =>
          outM (
           some (r78, true))
         else
          if (r75 == (1 : Int)) then
           (idx e2_0 (0 : Int)).bind fun x81 =>
           outM (
            some (x81, true))
          else
           (r08_Num K r75).bind fun r83 =>
           (idx p0.kids (0 : Int)).bind fun x85 =>
           (r08_Num K (IntKind.wrap .i64 (r75 - (1 : Int)))).bind fun r87 =>
           (r08_Two K (9 : Int) x85 r87).bind fun r89 =>
           (r08_Two K (7 : Int) r83 r89).bind fun r91 =>
           (idx e2_0 (0 : Int)).bind fun x93 =>
           (r08_Two K (7 : Int) r91 x93).bind fun r95 =>
           outM (
            some (r95, true))
        else
         if (p0.op == (11 : Int)) then
          (r08_One K (12 : Int) p0).bind fun r98 =>
          outM (
           some (r98, true))
         else
          ((
           if (p0.op == (20 : Int)) then
            some (p0.op == (20 : Int))
           else
            some (p0.op == (21 : Int))) : Option Bool).bind (fun v100_0 =>
          if v100_0 then
           outM (
            some ((NodeA.mk (20 : Int) (⟨#[]⟩ : ByteArray) (RatA.mk false [] []) []), true))
          else
           ((
            if (p0.op == (22 : Int)) then
             some (p0.op == (22 : Int))
            else
             some (p0.op == (23 : Int))) : Option Bool).bind (fun v104_0 =>
           if v104_0 then
            (idx e2_0 (0 : Int)).bind fun x108 =>
            (idx e2_0 (1 : Int)).bind fun x110 =>
            (r08_Two K (22 : Int) x108 x110).bind fun r112 =>
            outM (
             some (r112, true))
           else
            ((
             if (p0.op == (24 : Int)) then
              some (p0.op == (24 : Int))
             else
              some (p0.op == (25 : Int))) : Option Bool).bind (fun v114_0 =>
            if v114_0 then
             (idx e2_0 (0 : Int)).bind fun x118 =>
             (idx e2_0 (1 : Int)).bind fun x120 =>
             (r08_Two K (25 : Int) x118 x120).bind fun r122 =>
             outM (
              some (r122, true))
            else
             ((
              if (p0.op == (26 : Int)) then
               some (p0.op == (26 : Int))
              else
               some (p0.op == (27 : Int))) : Option Bool).bind (fun v124_0 =>
             if v124_0 then
              (idx e2_0 (0 : Int)).bind fun x128 =>
              (idx e2_0 (1 : Int)).bind fun x130 =>
              (r08_Two K (27 : Int) x128 x130).bind fun r132 =>
              outM (
               some (r132, true))
             else
              ((
               if (p0.op == (29 : Int)) then
                some (p0.op == (29 : Int))
               else
                some (p0.op == (30 : Int))) : Option Bool).bind (fun v134_0 =>
              if v134_0 then
               (idx e2_0 (0 : Int)).bind fun x138 =>
               (idx e2_0 (1 : Int)).bind fun x140 =>
               (r08_Two K (29 : Int) x138 x140).bind fun r142 =>
               outM (
                some (r142, true))
              else
               if (p0.op == (38 : Int)) then
                (r08_One K (39 : Int) p0).bind fun r145 =>
                outM (
                 some (r145, true))
               else
                some (.go ()))))))))) : Option (Out Unit _)).bind (Out.fin fun _ =>
 some ((NodeA.mk (0 : Int) (⟨#[]⟩ : ByteArray) (RatA.mk false [] []) []), false)))
set_option maxHeartbeats 4000000 in
theorem r13_Derive_step (K : Nat) (self27 : NodeA → Option (NodeA × Bool)) (hself27 : ∀ (q : NodeA) (r : NodeA × Bool), self27 q = some r → Cn Tryz.prog 27 [aggV q.enc] (.tup [aggV r.1.enc, .d (.val (.bool r.2))])) (p0 : NodeA) (r : NodeA × Bool) (h : r13_Derive_body K self27 p0 = some r) : Cn Tryz.prog 27 [aggV p0.enc] (.tup [aggV r.1.enc, .d (.val (.bool r.2))]) := by
 refine Cn.oz Tryz.func27 Tryz.call27 Tryz.ntmps27 Tryz.results27 fun hfit => ?_
 unfold r13_Derive_body at h
 refine AW.kr [] [0] ?_
 refine AW.kr [0, 1] [1, 2] ?_
 refine AW.ks [0, 1] [1, 2, 4] ?_
 refine AW.one ?_
 refine AW.ro ?_
 refine AW.ks [0, 1] [1, 2, 4, 11, 12, 13] ?_
 refine AW.lp h (fun e2_0 => [(1, .ptr 0 6 0 0), (2, .ptr 1 6 0 0), (4, accV 2 6 ((e2_0.map NodeA.enc).map (·.map .d)))]) (fun e2_0 => [vE p0.enc, some ⟨6, [[vI (0 : Int), vS (⟨#[]⟩ : ByteArray), vB false, .d (.val (.slice none 0 0)), .d (.val (.slice none 0 0)), .d (.val (.slice none 0 0))]]⟩, accO 6 ((e2_0.map NodeA.enc).map (·.map .d))]) (fun (i1_0, i1_1) => [(1, .ptr 0 6 0 0), (2, .ptr 1 6 0 0), (4, accV 2 6 ((i1_1.map NodeA.enc).map (·.map .d))), (11, vL NodeA.enc p0.kids), (12, vI (p0.kids.length : Int)), (13, vI i1_0)]) (fun (i1_0, i1_1) => [vE p0.enc, some ⟨6, [[vI (0 : Int), vS (⟨#[]⟩ : ByteArray), vB false, .d (.val (.slice none 0 0)), .d (.val (.slice none 0 0)), .d (.val (.slice none 0 0))]]⟩, accO 6 ((i1_1.map NodeA.enc).map (·.map .d))]) [0, 1, 1002] (fun oJ4 hJ4 again ⟨i1_0, i1_1⟩ h => ?_) fun e2_0 h => ?_
 ·try dsimp only at h
  refine AW.ro ?_
  refine AW.ks [0, 1, 2] [1, 2, 4, 11, 12, 13, 14] ?_
  refine AW.one ?_
  refine AW.tt h (fun hb5 h => ?_) fun hb5 h => ?_
  ·refine AW.sk ?_
   refine AW.ks [0, 1, 2] [1, 2, 4, 11, 12, 13] ?_
   refine AW.jo h (fun v6_0 => [(1, .ptr 0 6 0 0), (2, .ptr 1 6 0 0), (4, accV 2 6 ((v6_0.map NodeA.enc).map (·.map .d))), (11, vL NodeA.enc p0.kids), (12, vI (p0.kids.length : Int)), (13, vI i1_0)]) (fun v6_0 => [vE p0.enc, some ⟨6, [[vI (0 : Int), vS (⟨#[]⟩ : ByteArray), vB false, .d (.val (.slice none 0 0)), .d (.val (.slice none 0 0)), .d (.val (.slice none 0 0))]]⟩, accO 6 ((v6_0.map NodeA.enc).map (·.map .d))]) (fun oJ7 h hJ7 => ?_) fun v6_0 h => ?_
   ·refine AW.block ?_
    refine AW.ro ?_
    refine bx h fun x8 h0 h1 h => ?_
    refine AW.ks [0, 1, 2, 6] [1, 2, 4, 5, 6, 11, 12, 13] ?_
    refine AW.jo h (fun _ => [(1, .ptr 0 6 0 0), (2, .ptr 1 6 0 0), (4, accV 2 6 ((i1_1.map NodeA.enc).map (·.map .d))), (6, .ptr 3 6 0 0), (11, vL NodeA.enc p0.kids), (12, vI (p0.kids.length : Int)), (13, vI i1_0)]) (fun _ => [vE p0.enc, some ⟨6, [[vI (0 : Int), vS (⟨#[]⟩ : ByteArray), vB false, .d (.val (.slice none 0 0)), .d (.val (.slice none 0 0)), .d (.val (.slice none 0 0))]]⟩, accO 6 ((i1_1.map NodeA.enc).map (·.map .d)), vE x8.enc]) (fun oJ11 h hJ11 => ?_) fun ⟨⟩ h => ?_
    ·refine AW.jn h (fun v12_0 => [(1, .ptr 0 6 0 0), (2, .ptr 1 6 0 0), (4, accV 2 6 ((i1_1.map NodeA.enc).map (·.map .d))), (6, .ptr 3 6 0 0), (11, vL NodeA.enc p0.kids), (12, vI (p0.kids.length : Int)), (13, vI i1_0), (29, vB v12_0)]) (fun v12_0 => [vE p0.enc, some ⟨6, [[vI (0 : Int), vS (⟨#[]⟩ : ByteArray), vB false, .d (.val (.slice none 0 0)), .d (.val (.slice none 0 0)), .d (.val (.slice none 0 0))]]⟩, accO 6 ((i1_1.map NodeA.enc).map (·.map .d)), vE x8.enc]) (fun oJ13 h => ?_) fun v12_0 h => ?_
     ·refine AW.rp ?_
      refine sK h (fun hb14 h => ?_) fun hb14 h => ?_
      ·refine sK h (fun hb15 h => ?_) fun hb15 h => ?_
       ·exact ja [0, 1, 2, 3] h
       exact ja [0, 1, 2, 3] h
      exact ja [0, 1, 2, 3] h
     refine AW.tk h (fun hb16 h => ?_) fun hb16 h => ?_
     ·refine AW.ex ?_
      have h := up h hJ11
      have h := up h hJ7
      exact jo [0, 1, 2] h
     exact jo [0, 1, 2, 3] h
    refine AW.jo h (fun _ => [(1, .ptr 0 6 0 0), (2, .ptr 1 6 0 0), (4, accV 2 6 ((i1_1.map NodeA.enc).map (·.map .d))), (6, .ptr 3 6 0 0), (11, vL NodeA.enc p0.kids), (12, vI (p0.kids.length : Int)), (13, vI i1_0)]) (fun _ => [vE p0.enc, some ⟨6, [[vI (0 : Int), vS (⟨#[]⟩ : ByteArray), vB false, .d (.val (.slice none 0 0)), .d (.val (.slice none 0 0)), .d (.val (.slice none 0 0))]]⟩, accO 6 ((i1_1.map NodeA.enc).map (·.map .d)), vE x8.enc]) (fun oJ18 h hJ18 => ?_) fun ⟨⟩ h => ?_
    ·refine AW.jn h (fun v19_0 => [(1, .ptr 0 6 0 0), (2, .ptr 1 6 0 0), (4, accV 2 6 ((i1_1.map NodeA.enc).map (·.map .d))), (6, .ptr 3 6 0 0), (11, vL NodeA.enc p0.kids), (12, vI (p0.kids.length : Int)), (13, vI i1_0), (37, vB v19_0)]) (fun v19_0 => [vE p0.enc, some ⟨6, [[vI (0 : Int), vS (⟨#[]⟩ : ByteArray), vB false, .d (.val (.slice none 0 0)), .d (.val (.slice none 0 0)), .d (.val (.slice none 0 0))]]⟩, accO 6 ((i1_1.map NodeA.enc).map (·.map .d)), vE x8.enc]) (fun oJ20 h => ?_) fun v19_0 h => ?_
     ·refine AW.rp ?_
      refine sK h (fun hb21 h => ?_) fun hb21 h => ?_
      ·exact ja [0, 1, 2, 3] h
      exact ja [0, 1, 2, 3] h
     refine AW.tk h (fun hb22 h => ?_) fun hb22 h => ?_
     ·refine AW.ro ?_
      refine AW.ret ?_
      have h := up h hJ18
      have h := up h hJ7
      have h := up h hJ4
      cases h; refine nz ?_; exact .tupL ⟨.aggL ⟨.same _, .same _, .same _, .nil, .nil, .nil, trivial⟩, .same _, trivial⟩
     exact jo [0, 1, 2, 3] h
    refine AW.ro ?_
    refine cm h (hself27 _ _) fun r23 hx24 h => ?_
    refine AW.ks [0, 1, 2, 9] [1, 2, 4, 7, 8, 11, 12, 13] ?_
    refine AW.one ?_
    refine AW.ro ?_
    refine AW.ks [0, 1, 2, 3] [1, 2, 4, 7, 11, 12, 13, 45] ?_
    refine AW.tk h (fun hb25 h => ?_) fun hb25 h => ?_
    ·refine AW.ro ?_
     refine AW.ret ?_
     have h := up h hJ7
     have h := up h hJ4
     cases h; refine nz ?_; exact .tupL ⟨.aggL ⟨.same _, .same _, .same _, .nil, .nil, .nil, trivial⟩, .same _, trivial⟩
    refine AW.ks [0, 1, 2, 3] [1, 2, 4, 7, 11, 12, 13] ?_
    refine AW.rp ?_
    refine ag (f := NodeA.enc) h fun l26 hx27 h => ?_
    exact jo [0, 1, 7] h
   refine AW.rp ?_
   exact na [0, 1, 2] h
  refine AW.ex ?_
  exact jo [0, 1, 2] h
 refine AW.ks [0, 1, 2] [1, 2, 4] ?_
 refine AW.jo h (fun _ => [(2, .ptr 0 6 0 0)]) (fun _ => [some ⟨6, [[vI (0 : Int), vS (⟨#[]⟩ : ByteArray), vB false, .d (.val (.slice none 0 0)), .d (.val (.slice none 0 0)), .d (.val (.slice none 0 0))]]⟩]) (fun oJ29 h hJ29 => ?_) fun ⟨⟩ h => ?_
 ·refine AW.ro ?_
  refine AW.ks [0, 1, 2] [1, 2, 4, 53] ?_
  refine AW.block ?_
  refine AW.jn h (fun v30_0 => [(1, .ptr 0 6 0 0), (2, .ptr 1 6 0 0), (4, accV 2 6 ((e2_0.map NodeA.enc).map (·.map .d))), (53, vI p0.op), (54, vB v30_0)]) (fun v30_0 => [vE p0.enc, some ⟨6, [[vI (0 : Int), vS (⟨#[]⟩ : ByteArray), vB false, .d (.val (.slice none 0 0)), .d (.val (.slice none 0 0)), .d (.val (.slice none 0 0))]]⟩, accO 6 ((e2_0.map NodeA.enc).map (·.map .d))]) (fun oJ31 h => ?_) fun v30_0 h => ?_
  ·refine AW.ro ?_
   refine AW.ks [0, 1, 2] [1, 2, 4, 53, 54] ?_
   refine AW.tt h (fun hb32 h => ?_) fun hb32 h => ?_
   ·refine AW.sk ?_
    exact ja [0, 1, 2] h
   refine AW.rp ?_
   exact ja [0, 1, 2] h
  refine AW.tt h (fun hb33 h => ?_) fun hb33 h => ?_
  ·refine AW.ro ?_
   refine cm h r08_Num_ok fun r34 hx35 h => ?_
   refine AW.ret ?_
   have h := up h hJ29
   cases h; refine nz ?_; exact .same _
  refine AW.ro ?_
  refine AW.ks [0, 1, 2] [1, 2, 4, 53, 58] ?_
  refine AW.tt h (fun hb36 h => ?_) fun hb36 h => ?_
  ·refine AW.ro ?_
   refine AW.ret ?_
   have h := up h hJ29
   cases h; refine nz ?_; exact .tupL ⟨.aggL ⟨.same _, .same _, .same _, .nil, .nil, .nil, trivial⟩, .same _, trivial⟩
  refine AW.ro ?_
  refine AW.ks [0, 1, 2] [1, 2, 4, 53, 63] ?_
  refine AW.tt h (fun hb37 h => ?_) fun hb37 h => ?_
  ·refine AW.ro ?_
   refine bi h fun x38 h0 h1 h2 h3 h4 h => ?_
   refine cm h r08_One_ok fun r40 hx41 h => ?_
   refine AW.ret ?_
   have h := up h hJ29
   cases h; refine nz ?_; exact .same _
  refine AW.jn h (fun v42_0 => [(1, .ptr 0 6 0 0), (2, .ptr 1 6 0 0), (4, accV 2 6 ((e2_0.map NodeA.enc).map (·.map .d))), (53, vI p0.op), (69, vB v42_0)]) (fun v42_0 => [vE p0.enc, some ⟨6, [[vI (0 : Int), vS (⟨#[]⟩ : ByteArray), vB false, .d (.val (.slice none 0 0)), .d (.val (.slice none 0 0)), .d (.val (.slice none 0 0))]]⟩, accO 6 ((e2_0.map NodeA.enc).map (·.map .d))]) (fun oJ43 h => ?_) fun v42_0 h => ?_
  ·refine AW.ro ?_
   refine AW.ks [0, 1, 2] [1, 2, 4, 53, 69] ?_
   refine AW.tt h (fun hb44 h => ?_) fun hb44 h => ?_
   ·refine AW.sk ?_
    exact ja [0, 1, 2] h
   refine AW.rp ?_
   exact ja [0, 1, 2] h
  refine AW.tt h (fun hb45 h => ?_) fun hb45 h => ?_
  ·refine AW.ro ?_
   refine bi h fun x46 h0 h1 h2 h3 h4 h => ?_
   refine bi h fun x48 h0 h1 h2 h3 h4 h => ?_
   refine pm h r08_Two_ok fun r50 hx51 h => ?_
   refine AW.ret ?_
   have h := up h hJ29
   cases h; refine nz ?_; exact .same _
  refine AW.ro ?_
  refine AW.ks [0, 1, 2] [1, 2, 4, 53, 81] ?_
  refine AW.tt h (fun hb52 h => ?_) fun hb52 h => ?_
  ·refine AW.ro ?_
   refine bi h fun x53 h0 h1 h2 h3 h4 h => ?_
   refine bx h fun x55 h0 h1 h => ?_
   refine pm h r08_Two_ok fun r57 hx58 h => ?_
   refine bx h fun x59 h0 h1 h => ?_
   refine bi h fun x61 h0 h1 h2 h3 h4 h => ?_
   refine pm h r08_Two_ok fun r63 hx64 h => ?_
   refine pm h r08_Two_ok fun r65 hx66 h => ?_
   refine AW.ret ?_
   have h := up h hJ29
   cases h; refine nz ?_; exact .same _
  refine AW.ro ?_
  refine AW.ks [0, 1, 2] [1, 2, 4, 53, 100] ?_
  refine AW.tt h (fun hb67 h => ?_) fun hb67 h => ?_
  ·refine AW.ro ?_
   refine bi h fun x68 h0 h1 h2 h3 h4 h => ?_
   refine bx h fun x70 h0 h1 h => ?_
   refine pm h r08_Two_ok fun r72 hx73 h => ?_
   refine AW.ret ?_
   have h := up h hJ29
   cases h; refine nz ?_; exact .same _
  refine AW.ro ?_
  refine AW.ks [0, 1, 2] [1, 2, 4, 53, 110] ?_
  refine AW.tt h (fun hb74 h => ?_) fun hb74 h => ?_
  ·refine AW.ro ?_
   refine cm h r08_Exponent_ok fun r75 hx76 h => ?_
   refine AW.ks [0, 1, 2] [1, 2, 4, 9] ?_
   refine AW.one ?_
   refine AW.ro ?_
   refine AW.ks [0, 1, 2] [1, 2, 4, 9, 115] ?_
   refine AW.tk h (fun hb77 h => ?_) fun hb77 h => ?_
   ·refine AW.ro ?_
    refine cm h r08_Num_ok fun r78 hx79 h => ?_
    refine AW.ret ?_
    have h := up h hJ29
    cases h; refine nz ?_; exact .same _
   refine AW.ks [0, 1, 2] [1, 2, 4, 9] ?_
   refine AW.one ?_
   refine AW.ro ?_
   refine AW.ks [0, 1, 2] [1, 2, 4, 9, 118] ?_
   refine AW.tk h (fun hb80 h => ?_) fun hb80 h => ?_
   ·refine AW.ro ?_
    refine bi h fun x81 h0 h1 h2 h3 h4 h => ?_
    refine AW.ret ?_
    have h := up h hJ29
    cases h; refine nz ?_; exact .same _
   refine AW.kr [0, 1, 2] [1, 2, 4, 9] ?_
   refine pm h r08_Num_ok fun r83 hx84 h => ?_
   refine bx h fun x85 h0 h1 h => ?_
   refine pm h r08_Num_ok fun r87 hx88 h => ?_
   refine pm h r08_Two_ok fun r89 hx90 h => ?_
   refine pm h r08_Two_ok fun r91 hx92 h => ?_
   refine bi h fun x93 h0 h1 h2 h3 h4 h => ?_
   refine pm h r08_Two_ok fun r95 hx96 h => ?_
   refine AW.ret ?_
   have h := up h hJ29
   cases h; refine nz ?_; exact .same _
  refine AW.ro ?_
  refine AW.ks [0, 1, 2] [1, 2, 4, 53, 137] ?_
  refine AW.tt h (fun hb97 h => ?_) fun hb97 h => ?_
  ·refine AW.ro ?_
   refine cm h r08_One_ok fun r98 hx99 h => ?_
   refine AW.ret ?_
   have h := up h hJ29
   cases h; refine nz ?_; exact .same _
  refine AW.jn h (fun v100_0 => [(1, .ptr 0 6 0 0), (2, .ptr 1 6 0 0), (4, accV 2 6 ((e2_0.map NodeA.enc).map (·.map .d))), (53, vI p0.op), (141, vB v100_0)]) (fun v100_0 => [vE p0.enc, some ⟨6, [[vI (0 : Int), vS (⟨#[]⟩ : ByteArray), vB false, .d (.val (.slice none 0 0)), .d (.val (.slice none 0 0)), .d (.val (.slice none 0 0))]]⟩, accO 6 ((e2_0.map NodeA.enc).map (·.map .d))]) (fun oJ101 h => ?_) fun v100_0 h => ?_
  ·refine AW.ro ?_
   refine AW.ks [0, 1, 2] [1, 2, 4, 53, 141] ?_
   refine AW.tt h (fun hb102 h => ?_) fun hb102 h => ?_
   ·refine AW.sk ?_
    exact ja [0, 1, 2] h
   refine AW.rp ?_
   exact ja [0, 1, 2] h
  refine AW.tt h (fun hb103 h => ?_) fun hb103 h => ?_
  ·refine AW.ro ?_
   refine AW.ret ?_
   have h := up h hJ29
   cases h; refine nz ?_; exact .tupL ⟨.aggL ⟨.same _, .same _, .same _, .nil, .nil, .nil, trivial⟩, .same _, trivial⟩
  refine AW.jn h (fun v104_0 => [(1, .ptr 0 6 0 0), (2, .ptr 1 6 0 0), (4, accV 2 6 ((e2_0.map NodeA.enc).map (·.map .d))), (53, vI p0.op), (145, vB v104_0)]) (fun v104_0 => [vE p0.enc, some ⟨6, [[vI (0 : Int), vS (⟨#[]⟩ : ByteArray), vB false, .d (.val (.slice none 0 0)), .d (.val (.slice none 0 0)), .d (.val (.slice none 0 0))]]⟩, accO 6 ((e2_0.map NodeA.enc).map (·.map .d))]) (fun oJ105 h => ?_) fun v104_0 h => ?_
  ·refine AW.ro ?_
   refine AW.ks [0, 1, 2] [1, 2, 4, 53, 145] ?_
   refine AW.tt h (fun hb106 h => ?_) fun hb106 h => ?_
   ·refine AW.sk ?_
    exact ja [0, 1, 2] h
   refine AW.rp ?_
   exact ja [0, 1, 2] h
  refine AW.tt h (fun hb107 h => ?_) fun hb107 h => ?_
  ·refine AW.ro ?_
   refine bi h fun x108 h0 h1 h2 h3 h4 h => ?_
   refine bi h fun x110 h0 h1 h2 h3 h4 h => ?_
   refine pm h r08_Two_ok fun r112 hx113 h => ?_
   refine AW.ret ?_
   have h := up h hJ29
   cases h; refine nz ?_; exact .same _
  refine AW.jn h (fun v114_0 => [(1, .ptr 0 6 0 0), (2, .ptr 1 6 0 0), (4, accV 2 6 ((e2_0.map NodeA.enc).map (·.map .d))), (53, vI p0.op), (155, vB v114_0)]) (fun v114_0 => [vE p0.enc, some ⟨6, [[vI (0 : Int), vS (⟨#[]⟩ : ByteArray), vB false, .d (.val (.slice none 0 0)), .d (.val (.slice none 0 0)), .d (.val (.slice none 0 0))]]⟩, accO 6 ((e2_0.map NodeA.enc).map (·.map .d))]) (fun oJ115 h => ?_) fun v114_0 h => ?_
  ·refine AW.ro ?_
   refine AW.ks [0, 1, 2] [1, 2, 4, 53, 155] ?_
   refine AW.tt h (fun hb116 h => ?_) fun hb116 h => ?_
   ·refine AW.sk ?_
    exact ja [0, 1, 2] h
   refine AW.rp ?_
   exact ja [0, 1, 2] h
  refine AW.tt h (fun hb117 h => ?_) fun hb117 h => ?_
  ·refine AW.ro ?_
   refine bi h fun x118 h0 h1 h2 h3 h4 h => ?_
   refine bi h fun x120 h0 h1 h2 h3 h4 h => ?_
   refine pm h r08_Two_ok fun r122 hx123 h => ?_
   refine AW.ret ?_
   have h := up h hJ29
   cases h; refine nz ?_; exact .same _
  refine AW.jn h (fun v124_0 => [(1, .ptr 0 6 0 0), (2, .ptr 1 6 0 0), (4, accV 2 6 ((e2_0.map NodeA.enc).map (·.map .d))), (53, vI p0.op), (165, vB v124_0)]) (fun v124_0 => [vE p0.enc, some ⟨6, [[vI (0 : Int), vS (⟨#[]⟩ : ByteArray), vB false, .d (.val (.slice none 0 0)), .d (.val (.slice none 0 0)), .d (.val (.slice none 0 0))]]⟩, accO 6 ((e2_0.map NodeA.enc).map (·.map .d))]) (fun oJ125 h => ?_) fun v124_0 h => ?_
  ·refine AW.ro ?_
   refine AW.ks [0, 1, 2] [1, 2, 4, 53, 165] ?_
   refine AW.tt h (fun hb126 h => ?_) fun hb126 h => ?_
   ·refine AW.sk ?_
    exact ja [0, 1, 2] h
   refine AW.rp ?_
   exact ja [0, 1, 2] h
  refine AW.tt h (fun hb127 h => ?_) fun hb127 h => ?_
  ·refine AW.ro ?_
   refine bi h fun x128 h0 h1 h2 h3 h4 h => ?_
   refine bi h fun x130 h0 h1 h2 h3 h4 h => ?_
   refine pm h r08_Two_ok fun r132 hx133 h => ?_
   refine AW.ret ?_
   have h := up h hJ29
   cases h; refine nz ?_; exact .same _
  refine AW.jn h (fun v134_0 => [(1, .ptr 0 6 0 0), (2, .ptr 1 6 0 0), (4, accV 2 6 ((e2_0.map NodeA.enc).map (·.map .d))), (53, vI p0.op), (175, vB v134_0)]) (fun v134_0 => [vE p0.enc, some ⟨6, [[vI (0 : Int), vS (⟨#[]⟩ : ByteArray), vB false, .d (.val (.slice none 0 0)), .d (.val (.slice none 0 0)), .d (.val (.slice none 0 0))]]⟩, accO 6 ((e2_0.map NodeA.enc).map (·.map .d))]) (fun oJ135 h => ?_) fun v134_0 h => ?_
  ·refine AW.ro ?_
   refine AW.ks [0, 1, 2] [1, 2, 4, 53, 175] ?_
   refine AW.tt h (fun hb136 h => ?_) fun hb136 h => ?_
   ·refine AW.sk ?_
    exact ja [0, 1, 2] h
   refine AW.rp ?_
   exact ja [0, 1, 2] h
  refine AW.tt h (fun hb137 h => ?_) fun hb137 h => ?_
  ·refine AW.ro ?_
   refine bi h fun x138 h0 h1 h2 h3 h4 h => ?_
   refine bi h fun x140 h0 h1 h2 h3 h4 h => ?_
   refine pm h r08_Two_ok fun r142 hx143 h => ?_
   refine AW.ret ?_
   have h := up h hJ29
   cases h; refine nz ?_; exact .same _
  refine AW.ro ?_
  refine AW.ks [0, 1] [1, 2, 185] ?_
  refine AW.tk h (fun hb144 h => ?_) fun hb144 h => ?_
  ·refine AW.ro ?_
   refine cm h r08_One_ok fun r145 hx146 h => ?_
   refine AW.ret ?_
   have h := up h hJ29
   cases h; refine nz ?_; exact .same _
  exact jo [1] h
 refine AW.ro ?_
 refine AW.ret ?_
 cases h; refine nz ?_; exact .tupL ⟨.aggL ⟨.same _, .same _, .same _, .nil, .nil, .nil, trivial⟩, .same _, trivial⟩
def r13_Derive (K : Nat) (p0 : NodeA) : Option (NodeA × Bool) := iter K (fun self q => r13_Derive_body K self q) p0
theorem key_r13_Derive {K : Nat} (k : Nat) : (∀ (q : NodeA) (r : NodeA × Bool), iter k (fun self q => r13_Derive_body K self q) q = some r → Cn Tryz.prog 27 [aggV q.enc] (.tup [aggV r.1.enc, .d (.val (.bool r.2))])) := by
 induction k with
 | zero => exact fun q r h => by cases h
 | succ k ih => exact fun q r h => r13_Derive_step K _ ih q r h
theorem r13_Derive_ok {K : Nat} {p0 : NodeA} {r : NodeA × Bool} (h : r13_Derive K p0 = some r) : Cn Tryz.prog 27 [aggV p0.enc] (.tup [aggV r.1.enc, .d (.val (.bool r.2))]) := (key_r13_Derive K) p0 r h
/-! ### isochrone/isochroneref13.Rest -/
def r13_Rest (K : Nat) (p0 : NodeA) : Option Bool := ((iter (S := Int) (R := Out Unit _) K (fun again i1_0 =>
  if (decide (i1_0 < (p0.kids.length : Int))) then
   (idx p0.kids i1_0).bind fun x6 =>
   if (x6.op == (56 : Int)) then
    outM (
     some true)
   else
    again (IntKind.wrap .i64 (i1_0 + (1 : Int)))
  else
   some (.go ())) (0 : Int)) : Option (Out Unit _)).bind (Out.fin fun _ =>
 some false)
set_option maxHeartbeats 4000000 in
theorem r13_Rest_ok {K : Nat} {p0 : NodeA} {r : Bool} (h : r13_Rest K p0 = some r) : Cn Tryz.prog 37 [aggV p0.enc] (.d (.val (.bool r))) := by
 refine Cn.oz Tryz.func37 Tryz.call37 Tryz.ntmps37 Tryz.results37 fun hfit => ?_
 unfold r13_Rest at h
 refine AW.kr [] [0] ?_
 refine AW.ks [0] [1] ?_
 refine AW.one ?_
 refine AW.ro ?_
 refine AW.ks [] [6, 7, 8] ?_
 refine AW.lp h (fun _ => []) (fun _ => []) (fun i1_0 => [(6, vL NodeA.enc p0.kids), (7, vI (p0.kids.length : Int)), (8, vI i1_0)]) (fun i1_0 => []) [] (fun oJ4 hJ4 again i1_0 h => ?_) fun ⟨⟩ h => ?_
 ·refine AW.ro ?_
  refine AW.ks [] [6, 7, 8, 9] ?_
  refine AW.one ?_
  refine AW.tt h (fun hb5 h => ?_) fun hb5 h => ?_
  ·refine AW.sk ?_
   refine AW.ks [] [6, 7, 8] ?_
   refine AW.one ?_
   refine AW.block ?_
   refine AW.ro ?_
   refine bx h fun x6 h0 h1 h => ?_
   refine AW.kr [2] [4, 6, 7, 8] ?_
   refine AW.ks [] [6, 7, 8, 14] ?_
   refine AW.tk h (fun hb8 h => ?_) fun hb8 h => ?_
   ·refine AW.ro ?_
    refine AW.ret ?_
    have h := up h hJ4
    cases h; refine nz ?_; exact .same _
   refine AW.ks [] [6, 7, 8] ?_
   refine AW.rp ?_
   exact na [] h
  refine AW.ex ?_
  exact jo [] h
 refine AW.kr [] [] ?_
 refine AW.ret ?_
 cases h; refine nz ?_; exact .same _
/-! ### isochrone/isochroneref13.Rate -/
def r13_Rate (K : Nat) (p0 : NodeA) (p1 : ByteArray) : Option (NodeA × Bool) := ((iter (S := Int) (R := Out Unit _) K (fun again i1_0 =>
  if (decide (i1_0 < (p0.kids.length : Int))) then
   ((
    (idx p0.kids i1_0).bind fun x8 =>
    ((
     if (x8.op == (55 : Int)) then
      some (x8.name.toList == p1.toList)
     else
      some false) : Option Bool).bind (fun v10_0 =>
    if v10_0 then
     (idx x8.kids (0 : Int)).bind fun x14 =>
     outM (
      outM (
       some (x14, true)))
    else
     some (.go ()))) : Option (Out Unit _)).bind (Out.fin fun _ =>
   again (IntKind.wrap .i64 (i1_0 + (1 : Int))))
  else
   some (.go ())) (0 : Int)) : Option (Out Unit _)).bind (Out.fin fun _ =>
 some ((NodeA.mk (0 : Int) (⟨#[]⟩ : ByteArray) (RatA.mk false [] []) []), false))
set_option maxHeartbeats 4000000 in
theorem r13_Rate_ok {K : Nat} {p0 : NodeA} {p1 : ByteArray} {r : NodeA × Bool} (h : r13_Rate K p0 p1 = some r) : Cn Tryz.prog 59 [aggV p0.enc, .d (.val (.string p1))] (.tup [aggV r.1.enc, .d (.val (.bool r.2))]) := by
 refine Cn.oz Tryz.func59 Tryz.call59 Tryz.ntmps59 Tryz.results59 fun hfit => ?_
 unfold r13_Rate at h
 refine AW.kr [] [0, 1] ?_
 refine AW.ks [0, 1] [1, 2, 4] ?_
 refine AW.one ?_
 refine AW.ro ?_
 refine AW.ks [1] [1, 4, 9, 10, 11] ?_
 refine AW.lp h (fun _ => [(4, .ptr 0 6 0 0)]) (fun _ => [some ⟨6, [[vI (0 : Int), vS (⟨#[]⟩ : ByteArray), vB false, .d (.val (.slice none 0 0)), .d (.val (.slice none 0 0)), .d (.val (.slice none 0 0))]]⟩]) (fun i1_0 => [(1, vS p1), (4, .ptr 0 6 0 0), (9, vL NodeA.enc p0.kids), (10, vI (p0.kids.length : Int)), (11, vI i1_0)]) (fun i1_0 => [some ⟨6, [[vI (0 : Int), vS (⟨#[]⟩ : ByteArray), vB false, .d (.val (.slice none 0 0)), .d (.val (.slice none 0 0)), .d (.val (.slice none 0 0))]]⟩]) [0] (fun oJ4 hJ4 again i1_0 h => ?_) fun ⟨⟩ h => ?_
 ·refine AW.ro ?_
  refine AW.ks [0] [1, 4, 9, 10, 11, 12] ?_
  refine AW.one ?_
  refine AW.tt h (fun hb5 h => ?_) fun hb5 h => ?_
  ·refine AW.sk ?_
   refine AW.ks [0] [1, 4, 9, 10, 11] ?_
   refine AW.jo h (fun _ => [(1, vS p1), (4, .ptr 0 6 0 0), (9, vL NodeA.enc p0.kids), (10, vI (p0.kids.length : Int)), (11, vI i1_0)]) (fun _ => [some ⟨6, [[vI (0 : Int), vS (⟨#[]⟩ : ByteArray), vB false, .d (.val (.slice none 0 0)), .d (.val (.slice none 0 0)), .d (.val (.slice none 0 0))]]⟩]) (fun oJ7 h hJ7 => ?_) fun ⟨⟩ h => ?_
   ·refine AW.block ?_
    refine AW.ro ?_
    refine bx h fun x8 h0 h1 h => ?_
    refine AW.ks [0, 3] [1, 4, 7, 9, 10, 11] ?_
    refine AW.jn h (fun v10_0 => [(1, vS p1), (4, .ptr 0 6 0 0), (7, .ptr 1 6 0 0), (9, vL NodeA.enc p0.kids), (10, vI (p0.kids.length : Int)), (11, vI i1_0), (23, vB v10_0)]) (fun v10_0 => [some ⟨6, [[vI (0 : Int), vS (⟨#[]⟩ : ByteArray), vB false, .d (.val (.slice none 0 0)), .d (.val (.slice none 0 0)), .d (.val (.slice none 0 0))]]⟩, vE x8.enc]) (fun oJ11 h => ?_) fun v10_0 h => ?_
    ·refine AW.rp ?_
     refine sK h (fun hb12 h => ?_) fun hb12 h => ?_
     ·exact ja [0, 1] h
     exact ja [0, 1] h
    refine AW.tk h (fun hb13 h => ?_) fun hb13 h => ?_
    ·refine AW.ro ?_
     refine bx h fun x14 h0 h1 h => ?_
     refine AW.ret ?_
     have h := up h hJ7
     have h := up h hJ4
     cases h; refine nz ?_; exact .same _
    exact jo [0] h
   refine AW.rp ?_
   exact na [0] h
  refine AW.ex ?_
  exact jo [0] h
 refine AW.kr [0] [4] ?_
 refine AW.ret ?_
 cases h; refine nz ?_; exact .tupL ⟨.aggL ⟨.same _, .same _, .same _, .nil, .nil, .nil, trivial⟩, .same _, trivial⟩
/-! ### isochrone/isochroneref13.along -/
def r13_along_body (K : Nat) (self39 : (NodeA × NodeA) → Option NodeA) (p0 : NodeA) (p1 : NodeA) : Option NodeA := if (p0.op == (3 : Int)) then
  (r13_Rate K p1 p0.name).bind fun r2 =>
  if r2.2 then
   some r2.1
  else
   (r08_Num K (0 : Int)).bind fun r5 =>
   some r5
 else
  ((iter (S := Int × (List NodeA)) (R := (List NodeA)) K (fun again (i7_0, i7_1) =>
   if (decide (i7_0 < (p0.kids.length : Int))) then
    (idx p0.kids i7_0).bind fun x12 =>
    (self39 (x12, p1)).bind fun r14 =>
    (appO 104 i7_1 [r14]).bind fun l16 =>
    again (IntKind.wrap .i64 (i7_0 + (1 : Int)), l16)
   else
    some i7_1) ((0 : Int), [])) : Option (List NodeA)).bind (fun e8_0 =>
  some (NodeA.mk p0.op p0.name p0.num e8_0))
set_option maxHeartbeats 4000000 in
theorem r13_along_step (K : Nat) (self39 : (NodeA × NodeA) → Option NodeA) (hself39 : ∀ (q : NodeA × NodeA) (r : NodeA), self39 q = some r → Cn Tryz.prog 39 [aggV q.1.enc, aggV q.2.enc] (aggV r.enc)) (p0 : NodeA) (p1 : NodeA) (r : NodeA) (h : r13_along_body K self39 p0 p1 = some r) : Cn Tryz.prog 39 [aggV p0.enc, aggV p1.enc] (aggV r.enc) := by
 refine Cn.oz Tryz.func39 Tryz.call39 Tryz.ntmps39 Tryz.results39 fun hfit => ?_
 unfold r13_along_body at h
 refine AW.kr [] [0, 1] ?_
 refine AW.ks [0, 1, 2] [2, 3, 4] ?_
 refine AW.one ?_
 refine AW.ro ?_
 refine AW.ks [0, 1, 2] [2, 3, 4, 12] ?_
 refine AW.tk h (fun hb1 h => ?_) fun hb1 h => ?_
 ·refine AW.one ?_
  refine AW.ro ?_
  refine cm h r13_Rate_ok fun r2 hx3 h => ?_
  refine AW.kr [2, 10] [4, 5, 6] ?_
  refine AW.ks [0, 1] [4, 5, 20] ?_
  refine AW.tk h (fun hb4 h => ?_) fun hb4 h => ?_
  ·refine AW.ro ?_
   refine AW.ret ?_
   cases h; refine nz ?_; exact .same _
  refine AW.kr [0] [4] ?_
  refine cm h r08_Num_ok fun r5 hx6 h => ?_
  refine AW.ret ?_
  cases h; refine nz ?_; exact .same _
 refine AW.kr [0, 1, 2] [2, 3, 4] ?_
 refine AW.kr [0, 1, 2, 4] [2, 3, 4, 7] ?_
 refine AW.ks [0, 1, 2, 3] [2, 3, 4, 7] ?_
 refine AW.one ?_
 refine AW.ro ?_
 refine AW.ks [1, 2, 3] [3, 4, 7, 26, 27, 28] ?_
 refine AW.lm h (fun e8_0 => [(4, .ptr 0 6 0 0), (7, .ptr 1 6 0 0)]) (fun e8_0 => [some ⟨6, [[vI (0 : Int), vS (⟨#[]⟩ : ByteArray), vB false, .d (.val (.slice none 0 0)), .d (.val (.slice none 0 0)), .d (.val (.slice none 0 0))]]⟩, some ⟨6, [[vI p0.op, vS p0.name, vB p0.num.neg, vL u32V p0.num.num, vL u32V p0.num.den, accV 2 6 ((e8_0.map NodeA.enc).map (·.map .d))]]⟩, accO 6 ((e8_0.map NodeA.enc).map (·.map .d))]) (fun (i7_0, i7_1) => [(3, .ptr 0 6 0 0), (4, .ptr 1 6 0 0), (7, .ptr 2 6 0 0), (26, vL NodeA.enc p0.kids), (27, vI (p0.kids.length : Int)), (28, vI i7_0)]) (fun (i7_0, i7_1) => [vE p1.enc, some ⟨6, [[vI (0 : Int), vS (⟨#[]⟩ : ByteArray), vB false, .d (.val (.slice none 0 0)), .d (.val (.slice none 0 0)), .d (.val (.slice none 0 0))]]⟩, some ⟨6, [[vI p0.op, vS p0.name, vB p0.num.neg, vL u32V p0.num.num, vL u32V p0.num.den, accV 3 6 ((i7_1.map NodeA.enc).map (·.map .d))]]⟩, accO 6 ((i7_1.map NodeA.enc).map (·.map .d))]) [0, 1, 2, 1003] (fun oJ10 again ⟨i7_0, i7_1⟩ h => ?_) fun e8_0 h => ?_
 ·try dsimp only at h
  refine AW.ro ?_
  refine AW.ks [0, 1, 2, 3] [3, 4, 7, 26, 27, 28, 29] ?_
  refine AW.one ?_
  refine AW.tt h (fun hb11 h => ?_) fun hb11 h => ?_
  ·refine AW.sk ?_
   refine AW.ks [0, 1, 2, 3] [3, 4, 7, 26, 27, 28] ?_
   refine AW.one ?_
   refine AW.block ?_
   refine AW.ro ?_
   refine bx h fun x12 h0 h1 h => ?_
   refine AW.ks [0, 1, 2, 3, 6] [3, 4, 7, 9, 26, 27, 28] ?_
   refine AW.rp ?_
   refine pm h (hself39 _ _) fun r14 hx15 h => ?_
   refine ag (f := NodeA.enc) h fun l16 hx17 h => ?_
   refine AW.ks [0, 1, 2, 11] [3, 4, 7, 26, 27, 28] ?_
   refine AW.rp ?_
   exact na [0, 1, 2, 3] h
  refine AW.ex ?_
  exact ja [1, 2, 3] h
 refine AW.kr [0, 1, 2] [4, 7] ?_
 refine AW.ret ?_
 cases h; refine nz ?_; exact .aggL ⟨.same _, .same _, .same _, .same _, .same _, sealAcc (by simp only [go_sem, reduceEqDiff, reduceAdd, reduceSub, reduceMul, reduceLeDiff, reduceLT, Nat.reduceBEq, reduceIte]), trivial⟩
def r13_along (K : Nat) (p0 : NodeA) (p1 : NodeA) : Option NodeA := iter K (fun self q => r13_along_body K self q.1 q.2) (p0, p1)
theorem key_r13_along {K : Nat} (k : Nat) : (∀ (q : NodeA × NodeA) (r : NodeA), iter k (fun self q => r13_along_body K self q.1 q.2) q = some r → Cn Tryz.prog 39 [aggV q.1.enc, aggV q.2.enc] (aggV r.enc)) := by
 induction k with
 | zero => exact fun q r h => by cases h
 | succ k ih => exact fun q r h => r13_along_step K _ ih q.1 q.2 r h
theorem r13_along_ok {K : Nat} {p0 : NodeA} {p1 : NodeA} {r : NodeA} (h : r13_along K p0 p1 = some r) : Cn Tryz.prog 39 [aggV p0.enc, aggV p1.enc] (aggV r.enc) := (key_r13_along K) (p0, p1) r h
/-! ### isochrone/isochroneref13.checked -/
def r13_checked (K : Nat) (p0 : NodeA) (p1 : Int) : Option (NodeA × Int) := (r08_Check K p0 p1).bind fun r1 =>
 if (r1 != (0 : Int)) then
  some ((NodeA.mk (0 : Int) (⟨#[]⟩ : ByteArray) (RatA.mk false [] []) []), r1)
 else
  some (p0, (0 : Int))
set_option maxHeartbeats 4000000 in
theorem r13_checked_ok {K : Nat} {p0 : NodeA} {p1 : Int} {r : NodeA × Int} (h : r13_checked K p0 p1 = some r) : Cn Tryz.prog 28 [aggV p0.enc, .d (.val (.int .i64 p1))] (.tup [aggV r.1.enc, .d (.val (.int .i64 r.2))]) := by
 refine Cn.oz Tryz.func28 Tryz.call28 Tryz.ntmps28 Tryz.results28 fun hfit => ?_
 unfold r13_checked at h
 refine AW.kr [] [0, 1] ?_
 refine AW.ks [0, 1] [1, 2, 4] ?_
 refine AW.one ?_
 refine AW.ro ?_
 refine cm h r08_Check_ok fun r1 hx2 h => ?_
 refine AW.kr [0, 1] [2, 4, 6] ?_
 refine AW.ks [0, 1] [2, 4, 6, 11] ?_
 refine AW.tk h (fun hb3 h => ?_) fun hb3 h => ?_
 ·refine AW.ro ?_
  refine AW.ret ?_
  cases h; refine nz ?_; exact .tupL ⟨.aggL ⟨.same _, .same _, .same _, .nil, .nil, .nil, trivial⟩, .same _, trivial⟩
 refine AW.kr [0, 1] [2, 4] ?_
 refine AW.ret ?_
 cases h; refine nz ?_; exact .same _
/-! ### isochrone/isochroneref13.Lie -/
def r13_Lie (K : Nat) (p0 : NodeA) (p1 : NodeA) : Option (NodeA × Int) := (r08_Sort K p0.op).bind fun r1 =>
 ((
  ((
   if (r1 != (1 : Int)) then
    some (r1 != (2 : Int))
   else
    some false) : Option Bool).bind (fun v5_0 =>
  if v5_0 then
   outM (
    some ((NodeA.mk (0 : Int) (⟨#[]⟩ : ByteArray) (RatA.mk false [] []) []), (80 : Int)))
  else
   some (.go ()))) : Option (Out Unit _)).bind (Out.fin fun _ =>
 (r08_Check K p0 r1).bind fun r9 =>
 if (r9 != (0 : Int)) then
  some ((NodeA.mk (0 : Int) (⟨#[]⟩ : ByteArray) (RatA.mk false [] []) []), r9)
 else
  (r08_Check K p1 (3 : Int)).bind fun r12 =>
  if (r12 != (0 : Int)) then
   some ((NodeA.mk (0 : Int) (⟨#[]⟩ : ByteArray) (RatA.mk false [] []) []), r12)
  else
   if (p1.op != (54 : Int)) then
    some ((NodeA.mk (0 : Int) (⟨#[]⟩ : ByteArray) (RatA.mk false [] []) []), (80 : Int))
   else
    (r13_Derive K p0).bind fun r16 =>
    ((
     ((
      if (!r16.2) then
       some true
      else
       (r13_Rest K p1).bind fun r23 =>
       if r23 then
        some true
       else
        (r08_Contains K p0 (11 : Int) (38 : Int)).bind fun r26 =>
        some r26) : Option Bool).bind (fun v20_0 =>
     if v20_0 then
      outM (
       some ((NodeA.mk (0 : Int) (⟨#[]⟩ : ByteArray) (RatA.mk false [] []) []), (130 : Int)))
     else
      some (.go ()))) : Option (Out Unit _)).bind (Out.fin fun _ =>
    (r13_along K r16.1 p1).bind fun r29 =>
    (r13_checked K r29 r1).bind fun r31 =>
    some (r31.1, r31.2)))
set_option maxHeartbeats 4000000 in
theorem r13_Lie_ok {K : Nat} {p0 : NodeA} {p1 : NodeA} {r : NodeA × Int} (h : r13_Lie K p0 p1 = some r) : Cn Tryz.prog 14 [aggV p0.enc, aggV p1.enc] (.tup [aggV r.1.enc, .d (.val (.int .i64 r.2))]) := by
 refine Cn.oz Tryz.func14 Tryz.call14 Tryz.ntmps14 Tryz.results14 fun hfit => ?_
 unfold r13_Lie at h
 refine AW.kr [] [0, 1] ?_
 refine AW.kr [0, 1, 2] [2, 3, 4] ?_
 refine cm h r08_Sort_ok fun r1 hx2 h => ?_
 refine AW.ks [0, 1, 2] [2, 3, 4, 6] ?_
 refine AW.jo h (fun _ => [(2, .ptr 0 6 0 0), (3, .ptr 1 6 0 0), (4, .ptr 2 6 0 0), (6, vI r1)]) (fun _ => [vE p0.enc, vE p1.enc, some ⟨6, [[vI (0 : Int), vS (⟨#[]⟩ : ByteArray), vB false, .d (.val (.slice none 0 0)), .d (.val (.slice none 0 0)), .d (.val (.slice none 0 0))]]⟩]) (fun oJ4 h hJ4 => ?_) fun ⟨⟩ h => ?_
 ·refine AW.jn h (fun v5_0 => [(2, .ptr 0 6 0 0), (3, .ptr 1 6 0 0), (4, .ptr 2 6 0 0), (6, vI r1), (19, vB v5_0)]) (fun v5_0 => [vE p0.enc, vE p1.enc, some ⟨6, [[vI (0 : Int), vS (⟨#[]⟩ : ByteArray), vB false, .d (.val (.slice none 0 0)), .d (.val (.slice none 0 0)), .d (.val (.slice none 0 0))]]⟩]) (fun oJ6 h => ?_) fun v5_0 h => ?_
  ·refine AW.rp ?_
   refine sK h (fun hb7 h => ?_) fun hb7 h => ?_
   ·exact ja [0, 1, 2] h
   exact ja [0, 1, 2] h
  refine AW.tk h (fun hb8 h => ?_) fun hb8 h => ?_
  ·refine AW.ro ?_
   refine AW.ret ?_
   have h := up h hJ4
   cases h; refine nz ?_; exact .tupL ⟨.aggL ⟨.same _, .same _, .same _, .nil, .nil, .nil, trivial⟩, .same _, trivial⟩
  exact jo [0, 1, 2] h
 refine AW.one ?_
 refine AW.ro ?_
 refine cm h r08_Check_ok fun r9 hx10 h => ?_
 refine AW.kr [0, 1, 2] [2, 3, 4, 6, 7] ?_
 refine AW.ks [0, 1, 2] [2, 3, 4, 6, 7, 25] ?_
 refine AW.tk h (fun hb11 h => ?_) fun hb11 h => ?_
 ·refine AW.ro ?_
  refine AW.ret ?_
  cases h; refine nz ?_; exact .tupL ⟨.aggL ⟨.same _, .same _, .same _, .nil, .nil, .nil, trivial⟩, .same _, trivial⟩
 refine AW.ks [0, 1, 2] [2, 3, 4, 6] ?_
 refine AW.one ?_
 refine AW.ro ?_
 refine cm h r08_Check_ok fun r12 hx13 h => ?_
 refine AW.kr [0, 1, 2] [2, 3, 4, 6, 8] ?_
 refine AW.ks [0, 1, 2] [2, 3, 4, 6, 8, 31] ?_
 refine AW.tk h (fun hb14 h => ?_) fun hb14 h => ?_
 ·refine AW.ro ?_
  refine AW.ret ?_
  cases h; refine nz ?_; exact .tupL ⟨.aggL ⟨.same _, .same _, .same _, .nil, .nil, .nil, trivial⟩, .same _, trivial⟩
 refine AW.ks [0, 1, 2] [2, 3, 4, 6] ?_
 refine AW.one ?_
 refine AW.ro ?_
 refine AW.ks [0, 1, 2] [2, 3, 4, 6, 36] ?_
 refine AW.tk h (fun hb15 h => ?_) fun hb15 h => ?_
 ·refine AW.ro ?_
  refine AW.ret ?_
  cases h; refine nz ?_; exact .tupL ⟨.aggL ⟨.same _, .same _, .same _, .nil, .nil, .nil, trivial⟩, .same _, trivial⟩
 refine AW.kr [0, 1, 2] [2, 3, 4, 6] ?_
 refine cm h r13_Derive_ok fun r16 hx17 h => ?_
 refine AW.ks [0, 1, 2, 8] [2, 3, 4, 6, 9, 10] ?_
 refine AW.jo h (fun _ => [(3, .ptr 0 6 0 0), (4, .ptr 1 6 0 0), (6, vI r1), (9, .ptr 2 6 0 0)]) (fun _ => [vE p1.enc, some ⟨6, [[vI (0 : Int), vS (⟨#[]⟩ : ByteArray), vB false, .d (.val (.slice none 0 0)), .d (.val (.slice none 0 0)), .d (.val (.slice none 0 0))]]⟩, vE r16.1.enc]) (fun oJ19 h hJ19 => ?_) fun ⟨⟩ h => ?_
 ·refine AW.jn h (fun v20_0 => [(3, .ptr 0 6 0 0), (4, .ptr 1 6 0 0), (6, vI r1), (9, .ptr 2 6 0 0), (52, vB v20_0)]) (fun v20_0 => [vE p1.enc, some ⟨6, [[vI (0 : Int), vS (⟨#[]⟩ : ByteArray), vB false, .d (.val (.slice none 0 0)), .d (.val (.slice none 0 0)), .d (.val (.slice none 0 0))]]⟩, vE r16.1.enc]) (fun oJ21 h => ?_) fun v20_0 h => ?_
  ·refine AW.rp ?_
   refine sK h (fun hb22 h => ?_) fun hb22 h => ?_
   ·exact ja [1, 2, 3] h
   refine cm h r13_Rest_ok fun r23 hx24 h => ?_
   refine sK h (fun hb25 h => ?_) fun hb25 h => ?_
   ·exact ja [1, 2, 3] h
   refine cm h r08_Contains_ok fun r26 hx27 h => ?_
   exact ja [1, 2, 3] h
  refine AW.tk h (fun hb28 h => ?_) fun hb28 h => ?_
  ·refine AW.ro ?_
   refine AW.ret ?_
   have h := up h hJ19
   cases h; refine nz ?_; exact .tupL ⟨.aggL ⟨.same _, .same _, .same _, .nil, .nil, .nil, trivial⟩, .same _, trivial⟩
  exact jo [0, 1, 2] h
 refine AW.ro ?_
 refine cm h r13_along_ok fun r29 hx30 h => ?_
 refine cm h r13_checked_ok fun r31 hx32 h => ?_
 refine AW.ret ?_
 cases h; refine nz ?_; exact .same _
/-! ### isochrone/isochronelaw13.DiffLie -/
def law13_DiffLie (K : Nat) (p0 : NodeA) (p1 : NodeA) : Option Bool := (law13_awake K ).bind fun r1 =>
 if (!r1) then
  some false
 else
  ((
   ((
    (law13_small K p0 (40 : Int)).bind fun r8 =>
    if (!r8) then
     some true
    else
     (law13_small K p1 (40 : Int)).bind fun r11 =>
     some (!r11)) : Option Bool).bind (fun v6_0 =>
   if v6_0 then
    outM (
     some true)
   else
    some (.go ()))) : Option (Out Unit _)).bind (Out.fin fun _ =>
  (diff_Lie K p0 p1).bind fun r14 =>
  (r13_Lie K p0 p1).bind fun r16 =>
  if (r14.2 == r16.2) then
   (r08_Equal K r14.1 r16.1).bind fun r19 =>
   some r19
  else
   some false)
set_option maxHeartbeats 4000000 in
theorem law13_DiffLie_ok {K : Nat} {p0 : NodeA} {p1 : NodeA} {r : Bool} (h : law13_DiffLie K p0 p1 = some r) : Cn Tryz.prog 5 [aggV p0.enc, aggV p1.enc] (.d (.val (.bool r))) := by
 refine Cn.oz Tryz.func5 Tryz.call5 Tryz.ntmps5 Tryz.results5 fun hfit => ?_
 unfold law13_DiffLie at h
 refine AW.kr [] [0, 1] ?_
 refine AW.ks [0, 1] [2, 3] ?_
 refine AW.one ?_
 refine AW.ro ?_
 refine cm h law13_awake_ok fun r1 hx2 h => ?_
 refine AW.ks [0, 1] [2, 3, 10] ?_
 refine AW.tk h (fun hb3 h => ?_) fun hb3 h => ?_
 ·refine AW.ro ?_
  refine AW.ret ?_
  cases h; refine nz ?_; exact .same _
 refine AW.ks [0, 1] [2, 3] ?_
 refine AW.jo h (fun _ => [(2, .ptr 0 6 0 0), (3, .ptr 1 6 0 0)]) (fun _ => [vE p0.enc, vE p1.enc]) (fun oJ5 h hJ5 => ?_) fun ⟨⟩ h => ?_
 ·refine AW.jn h (fun v6_0 => [(2, .ptr 0 6 0 0), (3, .ptr 1 6 0 0), (18, vB v6_0)]) (fun v6_0 => [vE p0.enc, vE p1.enc]) (fun oJ7 h => ?_) fun v6_0 h => ?_
  ·refine AW.rp ?_
   refine cm h law13_small_ok fun r8 hx9 h => ?_
   refine sK h (fun hb10 h => ?_) fun hb10 h => ?_
   ·exact ja [0, 1] h
   refine cm h law13_small_ok fun r11 hx12 h => ?_
   exact ja [0, 1] h
  refine AW.tk h (fun hb13 h => ?_) fun hb13 h => ?_
  ·refine AW.ro ?_
   refine AW.ret ?_
   have h := up h hJ5
   cases h; refine nz ?_; exact .same _
  exact jo [0, 1] h
 refine AW.ro ?_
 refine cm h diff_Lie_ok fun r14 hx15 h => ?_
 refine AW.kr [0, 1, 8] [2, 3, 5, 6] ?_
 refine cm h r13_Lie_ok fun r16 hx17 h => ?_
 refine AW.kr [2, 9] [5, 6, 7, 8] ?_
 refine sK h (fun hb18 h => ?_) fun hb18 h => ?_
 ·refine cm h r08_Equal_ok fun r19 hx20 h => ?_
  refine AW.ret ?_
  cases h; refine nz ?_; exact .same _
 refine AW.ret ?_
 cases h; refine nz ?_; exact .same _
/-! ### isochrone/isochroneref13.Of -/
/-! ### isochrone/isochronelaw13.DiffOf -/
end Go.Proofs.YtphmckfokdkecaaGreat
