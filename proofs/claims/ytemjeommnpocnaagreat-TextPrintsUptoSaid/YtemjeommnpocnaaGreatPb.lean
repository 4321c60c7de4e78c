/- Part of the proof of a law: contracts of the functions that the law reaches, or plain laws of them, out of the abstract layer (the texts YtemjeommnpocnaaGreatIso..). No condition. -/
import Derived.Test.YtemjeommnpocnaaGreatW
import Derived.Test.YtemjeommnpocnaaGreatIsoF
import Derived.Test.YtemjeommnpocnaaGreatLman
import Derived.Test.YtemjeommnpocnaaGreatIsoU
import Derived.Test.YtemjeommnpocnaaGreatPa
open Nat (reduceEqDiff reduceAdd reduceSub reduceMul reduceLeDiff reduceLT)
namespace Go.Proofs.YtemjeommnpocnaaGreat
open Go Go.Iso Go.Proofs
set_option linter.unusedSimpArgs false
set_option linter.unusedVariables false
set_option maxRecDepth 100000
structure Text_printerA where
 b : Option (List Int)
/-! ### (*isochrone/text.printer).put -/
def text_printer_put (K : Nat) (p0 : Text_printerA) (p1 : List ByteArray) : Option Text_printerA := ((iter (S := Int × (Option (List Int))) (R := (Option (List Int))) K (fun again (i1_0, i1_1) =>
  if (decide (i1_0 < (p1.length : Int))) then
   (idx p1 i1_0).bind fun x6 =>
   (must (i1_1.isSome || !(bytesL x6).isEmpty)).bind fun _ =>
   (appO 1 (i1_1.getD []) (bytesL x6)).bind fun l8 =>
   again (IntKind.wrap .i64 (i1_0 + (1 : Int)), (some l8))
  else
   some i1_1) ((0 : Int), p0.b)) : Option (Option (List Int))).bind (fun e2_0 =>
 some (Text_printerA.mk e2_0))
set_option maxHeartbeats 4000000 in
theorem text_printer_put_ok {K : Nat} {p0 : Text_printerA} {p1 : List ByteArray} {r : Text_printerA} (h : text_printer_put K p0 p1 = some r) : Cm Tryz.prog 61 [.ptr 0 1 0 0, .d (slD strV p1)] 1 ([some ⟨1, [[gV 1 1 p0.b]]⟩] ++ [gO (fun x : Int => [D.val (.int .u8 x)]) 1 p0.b]) (.tup []) ([some ⟨1, [[gV 1 1 r.b]]⟩] ++ [gO (fun x : Int => [D.val (.int .u8 x)]) 1 r.b]) := by
 refine Cm.ofA mixed Tryz.func61 rfl Tryz.call61 Tryz.ntmps61 Tryz.results61 (by simp) rfl rfl (by simp only [go_sem, reduceEqDiff, reduceAdd, reduceSub, reduceMul, reduceLeDiff, reduceLT, Nat.reduceBEq, reduceIte, List.length_cons]) (by simp only [go_sem, reduceEqDiff, reduceAdd, reduceSub, reduceMul, reduceLeDiff, reduceLT, Nat.reduceBEq, reduceIte]) (by simp only [go_sem, reduceEqDiff, reduceAdd, reduceSub, reduceMul, reduceLeDiff, reduceLT, Nat.reduceBEq, reduceIte]) (by simp only [go_sem, reduceEqDiff, reduceAdd, reduceSub, reduceMul, reduceLeDiff, reduceLT, Nat.reduceBEq, reduceIte]) datO_g datO_g fun hfit => ?_
 unfold text_printer_put at h
 refine AW.cu [0, 1] [(0, .ptr 0 1 0 0), (1, .d (slD strV p1))] [some ⟨1, [[gV 1 1 p0.b]]⟩, gO (fun x : Int => [D.val (.int .u8 x)]) 1 p0.b] ?_
 refine AW.op mixed ?_
 refine AW.cu [0, 1] [(0, .ptr 0 1 0 0), (6, .d (slD strV p1)), (7, .d (.val (.int .i64 (p1.length : Int)))), (8, .d (.val (.int .i64 (0 : Int))))] [some ⟨1, [[gV 1 1 p0.b]]⟩, gO (fun x : Int => [D.val (.int .u8 x)]) 1 p0.b] ?_
 refine obindE h fun oJ4 h hJ4 => ?_
 refine AW.join (S := (Option (List Int))) (fun e2_0 => []) (fun e2_0 => [some ⟨1, [[gV 1 1 e2_0]]⟩, gO (fun x : Int => [D.val (.int .u8 x)]) 1 e2_0]) (fun x => x = oJ4) ?_ ?_
 ·refine AW.block ?_
  refine AW.iter (S := Int × (Option (List Int))) (fun (i1_0, i1_1) => [(0, .ptr 0 1 0 0), (6, .d (slD strV p1)), (7, .d (.val (.int .i64 (p1.length : Int)))), (8, .d (.val (.int .i64 i1_0)))]) (fun (i1_0, i1_1) => [some ⟨1, [[gV 1 1 i1_1]]⟩, gO (fun x : Int => [D.val (.int .u8 x)]) 1 i1_1]) [0, 1] h (by simp only [go_sem, reduceEqDiff, reduceAdd, reduceSub, reduceMul, reduceLeDiff, reduceLT, Nat.reduceBEq, reduceIte]) ?_
  rintro again ⟨i1_0, i1_1⟩ h
  try dsimp only at h
  refine AW.op mixed ?_
  refine AW.cu [0, 1] [(0, .ptr 0 1 0 0), (6, .d (slD strV p1)), (7, .d (.val (.int .i64 (p1.length : Int)))), (8, .d (.val (.int .i64 i1_0))), (9, .d (.val (.bool (decide (i1_0 < (p1.length : Int))))))] [some ⟨1, [[gV 1 1 i1_1]]⟩, gO (fun x : Int => [D.val (.int .u8 x)]) 1 i1_1] ?_
  refine AW.one ?_
  refine AW.ts (decide (i1_0 < (p1.length : Int))) (fun hb5 => ?_) (fun hb5 => ?_)
  ·have h := ifT hb5 h
   refine AW.sk ?_
   refine AW.cu [0, 1] [(0, .ptr 0 1 0 0), (6, .d (slD strV p1)), (7, .d (.val (.int .i64 (p1.length : Int)))), (8, .d (.val (.int .i64 i1_0)))] [some ⟨1, [[gV 1 1 i1_1]]⟩, gO (fun x : Int => [D.val (.int .u8 x)]) 1 i1_1] ?_
   refine AW.one ?_
   refine AW.block ?_
   refine AW.one ?_
   refine AW.reg mixed (by kernel_rfl) ?_
   apply obindE h; intro x6 hx7 h
   try simp only [go_sem, reduceEqDiff, reduceAdd, reduceSub, reduceMul, reduceLeDiff, reduceLT, Nat.reduceBEq, reduceIte, (idx_some hx7).1, (idx_some hx7).2]
   refine AW.cut [0, 1] [(0, .ptr 0 1 0 0), (5, .d (.val (.string x6))), (6, .d (slD strV p1)), (7, .d (.val (.int .i64 (p1.length : Int)))), (8, .d (.val (.int .i64 i1_0)))] [some ⟨1, [[gV 1 1 i1_1]]⟩, gO (fun x : Int => [D.val (.int .u8 x)]) 1 i1_1] (by simp only [go_sem, reduceEqDiff, reduceAdd, reduceSub, reduceMul, reduceLeDiff, reduceLT, Nat.reduceBEq, reduceIte, (idx_some hx7).1, (idx_some hx7).2]) ?_
   refine AW.rg mixed ?_
   apply obindE h; intro _ hx10 h
   apply obindE h; intro l8 hx9 h
   refine appXs (f := (fun x : Int => [D.val (.int .u8 x)])) (x := i1_1) hx10 hx9 rfl (by simp only [go_sem, reduceEqDiff, reduceAdd, reduceSub, reduceMul, reduceLeDiff, reduceLT, Nat.reduceBEq, reduceIte]) srcStr (by simp only [go_sem, reduceEqDiff, reduceAdd, reduceSub, reduceMul, reduceLeDiff, reduceLT, Nat.reduceBEq, reduceIte]) ?_
   try simp only [go_sem, reduceEqDiff, reduceAdd, reduceSub, reduceMul, reduceLeDiff, reduceLT, Nat.reduceBEq, reduceIte]
   refine AW.cu [0, 8] [(0, .ptr 0 1 0 0), (6, .d (slD strV p1)), (7, .d (.val (.int .i64 (p1.length : Int)))), (8, .d (.val (.int .i64 i1_0)))] [some ⟨1, [[gV 1 1 (some l8)]]⟩, gO (fun x : Int => [D.val (.int .u8 x)]) 1 (some l8)] ?_
   refine AW.rg mixed ?_
   exact NextQ.ar (IntKind.wrap .i64 (i1_0 + (1 : Int)), (some l8)) [0, 1] h
  have h := ifF hb5 h
  refine AW.ex ?_
  exact JoinQ.ar i1_1 [0, 1] (Option.some.inj h)
 rintro e2_0 rfl
 have h := hJ4
 try dsimp only [Out.fin] at h
 refine nz ?_
 obtain rfl := Option.some.inj h
 refine nz ?_
 refine EndM.mk 1 (by decide) (by simp only [go_sem, reduceEqDiff, reduceAdd, reduceSub, reduceMul, reduceLeDiff, reduceLT, Nat.reduceBEq, reduceIte]) (ns ?_)
 exact ⟨.same _, ⟨⟨.same _, trivial⟩, trivial⟩⟩
/-! ### isochrone/mag.Cmp -/
def mag_Cmp (K : Nat) (p0 : List Int) (p1 : List Int) : Option Int := if ((p0.length : Int) != (p1.length : Int)) then
  if (decide ((p0.length : Int) < (p1.length : Int))) then
   some (-1 : Int)
  else
   some (1 : Int)
 else
  ((iter (S := Int) (R := Out Unit _) K (fun again i3_0 =>
   if (decide ((0 : Int) ≤ i3_0)) then
    (idx p0 i3_0).bind fun x8 =>
    (idx p1 i3_0).bind fun x10 =>
    if (x8 != x10) then
     if (decide (x8 < x10)) then
      outM (
       some (-1 : Int))
     else
      outM (
       some (1 : Int))
    else
     again (IntKind.wrap .i64 (i3_0 - (1 : Int)))
   else
    some (.go ())) (IntKind.wrap .i64 ((p0.length : Int) - (1 : Int)))) : Option (Out Unit _)).bind (Out.fin fun _ =>
  some (0 : Int))
set_option maxHeartbeats 4000000 in
theorem mag_Cmp_ok {K : Nat} {p0 : List Int} {p1 : List Int} {r : Int} (h : mag_Cmp K p0 p1 = some r) : Cn Tryz.prog 130 [.d (slD u32V p0), .d (slD u32V p1)] (.d (.val (.int .i64 r))) := by
 refine Cn.oz Tryz.func130 Tryz.call130 Tryz.ntmps130 Tryz.results130 fun hfit => ?_
 unfold mag_Cmp at h
 refine AW.kr [] [0, 1] ?_
 refine AW.ks [] [0, 1] ?_
 refine AW.one ?_
 refine AW.ro ?_
 refine AW.ks [] [0, 1, 10] ?_
 refine AW.tk h (fun hb1 h => ?_) fun hb1 h => ?_
 ·refine AW.one ?_
  refine AW.ro ?_
  refine AW.ks [] [15] ?_
  refine AW.tk h (fun hb2 h => ?_) fun hb2 h => ?_
  ·refine AW.ro ?_
   refine AW.ret ?_
   cases h; refine nz ?_; exact .same _
  refine AW.kr [] [] ?_
  refine AW.ret ?_
  cases h; refine nz ?_; exact .same _
 refine AW.ks [] [0, 1] ?_
 refine AW.one ?_
 refine AW.ro ?_
 refine AW.ks [] [0, 1, 5] ?_
 refine AW.lp h (fun _ => []) (fun _ => []) (fun i3_0 => [(0, vL u32V p0), (1, vL u32V p1), (5, vI i3_0)]) (fun i3_0 => []) [] (fun oJ6 hJ6 again i3_0 h => ?_) fun ⟨⟩ h => ?_
 ·refine AW.one ?_
  refine AW.ro ?_
  refine AW.ks [] [0, 1, 5, 20] ?_
  refine AW.tt h (fun hb7 h => ?_) fun hb7 h => ?_
  ·refine AW.sk ?_
   refine AW.ks [] [0, 1, 5] ?_
   refine AW.one ?_
   refine AW.block ?_
   refine AW.ro ?_
   refine bx h fun x8 h0 h1 h => ?_
   refine bx h fun x10 h0 h1 h => ?_
   refine AW.ks [] [0, 1, 5, 31] ?_
   refine AW.tk h (fun hb12 h => ?_) fun hb12 h => ?_
   ·refine AW.one ?_
    refine AW.ro ?_
    refine AW.ks [] [40] ?_
    refine AW.tk h (fun hb13 h => ?_) fun hb13 h => ?_
    ·refine AW.ro ?_
     refine AW.ret ?_
     have h := up h hJ6
     cases h; refine nz ?_; exact .same _
    refine AW.kr [] [] ?_
    refine AW.ret ?_
    have h := up h hJ6
    cases h; refine nz ?_; exact .same _
   refine AW.ks [] [0, 1, 5] ?_
   refine AW.rp ?_
   exact na [] h
  refine AW.ex ?_
  exact jo [] h
 refine AW.kr [] [] ?_
 refine AW.ret ?_
 cases h; refine nz ?_; exact .same _
/-! ### isochrone/mag.Trim -/
def mag_Trim (K : Nat) (p0 : List Int) : Option (List Int) := ((iter (S := (List Int)) (R := (List Int)) K (fun again i1_0 =>
  ((
   ((
    if (decide ((0 : Int) < (i1_0.length : Int))) then
     (idx i1_0 (IntKind.wrap .i64 ((i1_0.length : Int) - (1 : Int)))).bind fun x10 =>
     some (x10 == (0 : Int))
    else
     some false) : Option Bool).bind (fun v7_0 =>
   if v7_0 then
    some (.go ())
   else
    outM (
     some i1_0))) : Option (Out Unit _)).bind (Out.fin fun _ =>
  (cutL i1_0 none (some (IntKind.wrap .i64 ((i1_0.length : Int) - (1 : Int))))).bind fun s13 =>
  again s13)) p0) : Option (List Int)).bind (fun e2_0 =>
 some e2_0)
set_option maxHeartbeats 4000000 in
theorem mag_Trim_ok {K : Nat} {p0 : List Int} {r : (List Int)} (h : mag_Trim K p0 = some r) : Cn Tryz.prog 129 [.d (slD u32V p0)] (.d (slD u32V r)) := by
 refine Cn.oz Tryz.func129 Tryz.call129 Tryz.ntmps129 Tryz.results129 fun hfit => ?_
 unfold mag_Trim at h
 refine AW.kr [] [0] ?_
 refine AW.ks [] [0] ?_
 refine AW.ln h (fun e2_0 => [(0, vL u32V e2_0)]) (fun e2_0 => []) (fun i1_0 => [(0, vL u32V i1_0)]) (fun i1_0 => []) [] (fun oJ4 again i1_0 h => ?_) fun e2_0 h => ?_
 ·refine AW.jo h (fun _ => [(0, vL u32V i1_0)]) (fun _ => []) (fun oJ6 h hJ6 => ?_) fun ⟨⟩ h => ?_
  ·refine AW.jn h (fun v7_0 => [(0, vL u32V i1_0), (14, vB v7_0)]) (fun v7_0 => []) (fun oJ8 h => ?_) fun v7_0 h => ?_
   ·refine AW.rp ?_
    refine sK h (fun hb9 h => ?_) fun hb9 h => ?_
    ·refine bx h fun x10 h0 h1 h => ?_
     exact ja [] h
    exact ja [] h
   refine AW.tt h (fun hb12 h => ?_) fun hb12 h => ?_
   ·refine AW.sk ?_
    exact jo [] h
   refine AW.ex ?_
   have h := up h hJ6
   exact ja [] h
  refine AW.block ?_
  refine AW.rp ?_
  refine bb h fun s13 hx14 h => ?_
  exact na [] h
 refine AW.kr [] [0] ?_
 refine AW.ret ?_
 cases h; refine nz ?_; exact .same _
/-! ### isochrone/mag.From -/
def mag_From (K : Nat) (p0 : Int) : Option (List Int) := (must (decide ((0 : Int) ≤ (32 : Int)))).bind fun _ =>
 (mag_Trim K [IntKind.wrap .u32 p0, IntKind.wrap .u32 (bShr .u64 p0 (32 : Int))]).bind fun r2 =>
 some r2
set_option maxHeartbeats 4000000 in
theorem mag_From_ok {K : Nat} {p0 : Int} {r : (List Int)} (h : mag_From K p0 = some r) : Cn Tryz.prog 109 [.d (.val (.int .u64 p0))] (.d (slD u32V r)) := by
 have q0 := fun k z => cv_int (k' := k) (z := z) Tryz.underlying107 Tryz.underlying86
 refine Cn.oz Tryz.func109 Tryz.call109 Tryz.ntmps109 Tryz.results109 fun hfit => ?_
 unfold mag_From at h
 refine AW.kr [] [0] ?_
 refine AW.kr [] [0] ?_
 apply bE h; intro _ hx1 h; have hx1 := ms hx1; refine ns ?_
 refine cm h mag_Trim_ok fun r2 hx3 h => ?_
 refine AW.ret ?_
 cases h; refine nz ?_; exact .same _
/-! ### isochrone/mag.divWord -/
def mag_divWord (K : Nat) (p0 : List Int) (p1 : Int) : Option ((List Int) × Int) := (makO 4 (p0.length : Int) (0 : Int)).bind fun l1 =>
 ((iter (S := Int × Int × (List Int)) (R := (Int × (List Int))) K (fun again (i3_0, i3_1, i3_2) =>
  if (decide ((0 : Int) ≤ i3_1)) then
   (must (decide ((0 : Int) ≤ (32 : Int)))).bind fun _ =>
   (idx p0 i3_1).bind fun x9 =>
   (must ((IntKind.wrap .u64 p1) != 0)).bind fun z11 =>
   (idx i3_2 i3_1).bind fun x13 =>
   (must ((IntKind.wrap .u64 p1) != 0)).bind fun z15 =>
   again ((bOr .u64 (bShl .u64 i3_0 (32 : Int)) (IntKind.wrap .u64 x9)).tmod (IntKind.wrap .u64 p1), IntKind.wrap .i64 (i3_1 - (1 : Int)), (i3_2.set (i3_1.toNat) (IntKind.wrap .u32 (IntKind.wrap .u64 ((bOr .u64 (bShl .u64 i3_0 (32 : Int)) (IntKind.wrap .u64 x9)).tdiv (IntKind.wrap .u64 p1))))))
  else
   some (i3_0, i3_2)) ((0 : Int), IntKind.wrap .i64 ((p0.length : Int) - (1 : Int)), l1)) : Option (Int × (List Int))).bind (fun (e4_0, e4_1) =>
 (mag_Trim K e4_1).bind fun r17 =>
 some (r17, IntKind.wrap .u32 e4_0))
set_option maxHeartbeats 4000000 in
theorem mag_divWord_ok {K : Nat} {p0 : List Int} {p1 : Int} {r : (List Int) × Int} (h : mag_divWord K p0 p1 = some r) : Cn Tryz.prog 131 [.d (slD u32V p0), .d (.val (.int .u32 p1))] (.tup [.d (slD u32V r.1), .d (.val (.int .u32 r.2))]) := by
 refine Cn.ofA mixed Tryz.func131 rfl Tryz.call131 Tryz.ntmps131 Tryz.results131 (by simp) (by simp only [go_sem, reduceEqDiff, reduceAdd, reduceSub, reduceMul, reduceLeDiff, reduceLT, Nat.reduceBEq, reduceIte]) fun hfit => ?_
 unfold mag_divWord at h
 refine AW.kp [] [0, 1] ?_
 refine AW.op mixed ?_
 refine AW.kp [] [0, 1] ?_
 refine AW.op mixed ?_
 apply obindE h; intro l1 hx2 h
 refine makG (f := u32V) hx2 (nz ?_) ?_
 ·exact ⟨.same _, trivial⟩
 try simp only [go_sem, reduceEqDiff, reduceAdd, reduceSub, reduceMul, reduceLeDiff, reduceLT, Nat.reduceBEq, reduceIte]
 refine AW.cu [2] [(0, .d (slD u32V p0)), (1, .d (.val (.int .u32 p1))), (6, .msl 0 1 0 (l1.length))] [some ⟨1, (l1.map u32V).map (·.map .d)⟩] ?_
 refine AW.op mixed ?_
 refine AW.cu [0] [(0, .d (slD u32V p0)), (1, .d (.val (.int .u32 p1))), (6, .msl 0 1 0 (l1.length)), (7, .d (.val (.int .u64 (0 : Int))))] [some ⟨1, (l1.map u32V).map (·.map .d)⟩] ?_
 refine AW.one ?_
 refine AW.op mixed ?_
 refine AW.cu [0] [(0, .d (slD u32V p0)), (1, .d (.val (.int .u32 p1))), (6, .msl 0 1 0 (l1.length)), (7, .d (.val (.int .u64 (0 : Int)))), (8, .d (.val (.int .i64 (IntKind.wrap .i64 ((p0.length : Int) - (1 : Int))))))] [some ⟨1, (l1.map u32V).map (·.map .d)⟩] ?_
 refine obindE h fun oJ6 h hJ6 => ?_
 refine AW.join (S := Int × (List Int)) (fun (e4_0, e4_1) => [(6, .msl 0 1 0 (e4_1.length)), (7, .d (.val (.int .u64 e4_0)))]) (fun (e4_0, e4_1) => [some ⟨1, (e4_1.map u32V).map (·.map .d)⟩]) (fun x => x = oJ6) ?_ ?_
 ·refine AW.block ?_
  refine AW.iter (S := Int × Int × (List Int)) (fun (i3_0, i3_1, i3_2) => [(0, .d (slD u32V p0)), (1, .d (.val (.int .u32 p1))), (6, .msl 0 1 0 (i3_2.length)), (7, .d (.val (.int .u64 i3_0))), (8, .d (.val (.int .i64 i3_1)))]) (fun (i3_0, i3_1, i3_2) => [some ⟨1, (i3_2.map u32V).map (·.map .d)⟩]) [0] h (by simp only [go_sem, reduceEqDiff, reduceAdd, reduceSub, reduceMul, reduceLeDiff, reduceLT, Nat.reduceBEq, reduceIte]) ?_
  rintro again ⟨i3_0, i3_1, i3_2⟩ h
  try dsimp only at h
  refine AW.one ?_
  refine AW.op mixed ?_
  refine AW.cu [0] [(0, .d (slD u32V p0)), (1, .d (.val (.int .u32 p1))), (6, .msl 0 1 0 (i3_2.length)), (7, .d (.val (.int .u64 i3_0))), (8, .d (.val (.int .i64 i3_1))), (16, .d (.val (.bool (decide ((0 : Int) ≤ i3_1)))))] [some ⟨1, (i3_2.map u32V).map (·.map .d)⟩] ?_
  refine AW.ts (decide ((0 : Int) ≤ i3_1)) (fun hb7 => ?_) (fun hb7 => ?_)
  ·have h := ifT hb7 h
   refine AW.sk ?_
   refine AW.cu [0] [(0, .d (slD u32V p0)), (1, .d (.val (.int .u32 p1))), (6, .msl 0 1 0 (i3_2.length)), (7, .d (.val (.int .u64 i3_0))), (8, .d (.val (.int .i64 i3_1)))] [some ⟨1, (i3_2.map u32V).map (·.map .d)⟩] ?_
   refine AW.one ?_
   refine AW.block ?_
   refine AW.one ?_
   refine AW.reg mixed (by kernel_rfl) ?_
   apply obindE h; intro _ hx8 h
   apply obindE h; intro x9 hx10 h
   try simp only [go_sem, reduceEqDiff, reduceAdd, reduceSub, reduceMul, reduceLeDiff, reduceLT, Nat.reduceBEq, reduceIte, bop_shlO (P := Tryz.prog) hx8, (idx_some hx10).1, (idx_some hx10).2, cv_int (P := Tryz.prog) Tryz.underlying86 Tryz.underlying107]
   refine AW.cut [0] [(0, .d (slD u32V p0)), (1, .d (.val (.int .u32 p1))), (6, .msl 0 1 0 (i3_2.length)), (7, .d (.val (.int .u64 (bOr .u64 (bShl .u64 i3_0 (32 : Int)) (IntKind.wrap .u64 x9))))), (8, .d (.val (.int .i64 i3_1)))] [some ⟨1, (i3_2.map u32V).map (·.map .d)⟩] (by simp only [go_sem, reduceEqDiff, reduceAdd, reduceSub, reduceMul, reduceLeDiff, reduceLT, Nat.reduceBEq, reduceIte, bop_shlO (P := Tryz.prog) hx8, (idx_some hx10).1, (idx_some hx10).2, cv_int (P := Tryz.prog) Tryz.underlying86 Tryz.underlying107]) ?_
   refine AW.one ?_
   refine AW.reg mixed (by kernel_rfl) ?_
   apply obindE h; intro z11 hx12 h
   try simp only [go_sem, reduceEqDiff, reduceAdd, reduceSub, reduceMul, reduceLeDiff, reduceLT, Nat.reduceBEq, reduceIte, cv_int (P := Tryz.prog) Tryz.underlying86 Tryz.underlying107, bop_quo (P := Tryz.prog) (must_ne hx12), cv_int (P := Tryz.prog) Tryz.underlying107 Tryz.underlying86]
   apply obindE h; intro x13 hx14 h
   try simp only [go_sem, reduceEqDiff, reduceAdd, reduceSub, reduceMul, reduceLeDiff, reduceLT, Nat.reduceBEq, reduceIte, cv_int (P := Tryz.prog) Tryz.underlying86 Tryz.underlying107, bop_quo (P := Tryz.prog) (must_ne hx12), cv_int (P := Tryz.prog) Tryz.underlying107 Tryz.underlying86, (idx_some hx14).1, idx_lt hx14, (idx_some hx14).2, List.length_set, (rows_set (l := i3_2) (f := u32V) (i := i3_1.toNat) (v' := IntKind.wrap .u32 (IntKind.wrap .u64 ((bOr .u64 (bShl .u64 i3_0 (32 : Int)) (IntKind.wrap .u64 x9)).tdiv (IntKind.wrap .u64 p1)))) (row := [.d (.val (.int .u32 (IntKind.wrap .u32 (IntKind.wrap .u64 ((bOr .u64 (bShl .u64 i3_0 (32 : Int)) (IntKind.wrap .u64 x9)).tdiv (IntKind.wrap .u64 p1))))))]) (by simp only [go_sem, reduceEqDiff, reduceAdd, reduceSub, reduceMul, reduceLeDiff, reduceLT, Nat.reduceBEq, reduceIte]))]
   refine AW.cut [0] [(0, .d (slD u32V p0)), (1, .d (.val (.int .u32 p1))), (6, .msl 0 1 0 ((i3_2.set (i3_1.toNat) (IntKind.wrap .u32 (IntKind.wrap .u64 ((bOr .u64 (bShl .u64 i3_0 (32 : Int)) (IntKind.wrap .u64 x9)).tdiv (IntKind.wrap .u64 p1))))).length)), (7, .d (.val (.int .u64 (bOr .u64 (bShl .u64 i3_0 (32 : Int)) (IntKind.wrap .u64 x9))))), (8, .d (.val (.int .i64 i3_1)))] [some ⟨1, ((i3_2.set (i3_1.toNat) (IntKind.wrap .u32 (IntKind.wrap .u64 ((bOr .u64 (bShl .u64 i3_0 (32 : Int)) (IntKind.wrap .u64 x9)).tdiv (IntKind.wrap .u64 p1))))).map u32V).map (·.map .d)⟩] (by simp only [go_sem, reduceEqDiff, reduceAdd, reduceSub, reduceMul, reduceLeDiff, reduceLT, Nat.reduceBEq, reduceIte, cv_int (P := Tryz.prog) Tryz.underlying86 Tryz.underlying107, bop_quo (P := Tryz.prog) (must_ne hx12), cv_int (P := Tryz.prog) Tryz.underlying107 Tryz.underlying86, (idx_some hx14).1, idx_lt hx14, (idx_some hx14).2, List.length_set, (rows_set (l := i3_2) (f := u32V) (i := i3_1.toNat) (v' := IntKind.wrap .u32 (IntKind.wrap .u64 ((bOr .u64 (bShl .u64 i3_0 (32 : Int)) (IntKind.wrap .u64 x9)).tdiv (IntKind.wrap .u64 p1)))) (row := [.d (.val (.int .u32 (IntKind.wrap .u32 (IntKind.wrap .u64 ((bOr .u64 (bShl .u64 i3_0 (32 : Int)) (IntKind.wrap .u64 x9)).tdiv (IntKind.wrap .u64 p1))))))]) (by simp only [go_sem, reduceEqDiff, reduceAdd, reduceSub, reduceMul, reduceLeDiff, reduceLT, Nat.reduceBEq, reduceIte]))]) ?_
   refine AW.reg mixed (by kernel_rfl) ?_
   apply obindE h; intro z15 hx16 h
   try simp only [go_sem, reduceEqDiff, reduceAdd, reduceSub, reduceMul, reduceLeDiff, reduceLT, Nat.reduceBEq, reduceIte, cv_int (P := Tryz.prog) Tryz.underlying86 Tryz.underlying107, bop_rem (P := Tryz.prog) (must_ne hx16)]
   refine AW.cut [0] [(0, .d (slD u32V p0)), (1, .d (.val (.int .u32 p1))), (6, .msl 0 1 0 ((i3_2.set (i3_1.toNat) (IntKind.wrap .u32 (IntKind.wrap .u64 ((bOr .u64 (bShl .u64 i3_0 (32 : Int)) (IntKind.wrap .u64 x9)).tdiv (IntKind.wrap .u64 p1))))).length)), (7, .d (.val (.int .u64 ((bOr .u64 (bShl .u64 i3_0 (32 : Int)) (IntKind.wrap .u64 x9)).tmod (IntKind.wrap .u64 p1))))), (8, .d (.val (.int .i64 i3_1)))] [some ⟨1, ((i3_2.set (i3_1.toNat) (IntKind.wrap .u32 (IntKind.wrap .u64 ((bOr .u64 (bShl .u64 i3_0 (32 : Int)) (IntKind.wrap .u64 x9)).tdiv (IntKind.wrap .u64 p1))))).map u32V).map (·.map .d)⟩] (by simp only [go_sem, reduceEqDiff, reduceAdd, reduceSub, reduceMul, reduceLeDiff, reduceLT, Nat.reduceBEq, reduceIte, cv_int (P := Tryz.prog) Tryz.underlying86 Tryz.underlying107, bop_rem (P := Tryz.prog) (must_ne hx16)]) ?_
   refine AW.rg mixed ?_
   exact NextQ.ar ((bOr .u64 (bShl .u64 i3_0 (32 : Int)) (IntKind.wrap .u64 x9)).tmod (IntKind.wrap .u64 p1), IntKind.wrap .i64 (i3_1 - (1 : Int)), (i3_2.set (i3_1.toNat) (IntKind.wrap .u32 (IntKind.wrap .u64 ((bOr .u64 (bShl .u64 i3_0 (32 : Int)) (IntKind.wrap .u64 x9)).tdiv (IntKind.wrap .u64 p1)))))) [0] h
  have h := ifF hb7 h
  refine AW.ex ?_
  exact JoinQ.ar (i3_0, i3_2) [0] (Option.some.inj h)
 rintro ⟨e4_0, e4_1⟩ rfl
 have h := hJ6
 try dsimp only [Out.fin] at h
 refine nz ?_
 refine AW.cu [0] [(6, .msl 0 1 0 (e4_1.length)), (7, .d (.val (.int .u64 e4_0)))] [some ⟨1, (e4_1.map u32V).map (·.map .d)⟩] ?_
 refine AW.op mixed ?_
 apply obindE h; intro r17 hx18 h
 have hc := nx (mag_Trim_ok (h := hx18))
 refine callK_seal [0] hc ⟨sealArr (by simp only [go_sem, reduceEqDiff, reduceAdd, reduceSub, reduceMul, reduceLeDiff, reduceLT, Nat.reduceBEq, reduceIte]), trivial⟩ (by simp only [go_sem, reduceEqDiff, reduceAdd, reduceSub, reduceMul, reduceLeDiff, reduceLT, Nat.reduceBEq, reduceIte]) (by simp only [go_sem, reduceEqDiff, reduceAdd, reduceSub, reduceMul, reduceLeDiff, reduceLT, Nat.reduceBEq, reduceIte]) ?_
 try simp only [go_sem, reduceEqDiff, reduceAdd, reduceSub, reduceMul, reduceLeDiff, reduceLT, Nat.reduceBEq, reduceIte, cv_int (P := Tryz.prog) Tryz.underlying107 Tryz.underlying86]
 refine AW.ret ?_
 obtain rfl := Option.some.inj h
 refine nz ?_
 exact .same _
/-! ### isochrone/mag.DivMod -/
def mag_DivMod (K : Nat) (p0 : List Int) (p1 : List Int) : Option ((List Int) × (List Int)) := (mag_Cmp K p0 p1).bind fun r1 =>
 if (decide (r1 < (0 : Int))) then
  (appO 4 [] p0).bind fun l4 =>
  some ([], l4)
 else
  if ((p1.length : Int) == (1 : Int)) then
   (idx p1 (0 : Int)).bind fun x7 =>
   (mag_divWord K p0 x7).bind fun r9 =>
   (mag_From K (IntKind.wrap .u64 r9.2)).bind fun r11 =>
   some (r9.1, r11)
  else
   (idx p1 (IntKind.wrap .i64 ((p1.length : Int) - (1 : Int)))).bind fun x13 =>
   none
set_option maxHeartbeats 4000000 in
theorem mag_DivMod_ok {K : Nat} {p0 : List Int} {p1 : List Int} {r : (List Int) × (List Int)} (h : mag_DivMod K p0 p1 = some r) : Cn Tryz.prog 110 [.d (slD u32V p0), .d (slD u32V p1)] (.tup [.d (slD u32V r.1), .d (slD u32V r.2)]) := by
 refine Cn.ofA mixed Tryz.func110 rfl Tryz.call110 Tryz.ntmps110 Tryz.results110 (by simp) (by simp only [go_sem, reduceEqDiff, reduceAdd, reduceSub, reduceMul, reduceLeDiff, reduceLT, Nat.reduceBEq, reduceIte]) fun hfit => ?_
 unfold mag_DivMod at h
 refine AW.kp [] [0, 1] ?_
 refine AW.op mixed ?_
 refine AW.kp [] [0, 1] ?_
 refine AW.one ?_
 refine AW.op mixed ?_
 apply obindE h; intro r1 hx2 h
 have hc := nx (mag_Cmp_ok (h := hx2))
 refine callP hc ?_
 refine AW.kp [] [0, 1, 21] ?_
 refine AW.ts (decide (r1 < (0 : Int))) (fun hb3 => ?_) (fun hb3 => ?_)
 ·have h := ifT hb3 h
  refine AW.op mixed ?_
  apply obindE h; intro l4 hx5 h
  refine appD hx5 rfl (by simp only [go_sem, reduceEqDiff, reduceAdd, reduceSub, reduceMul, reduceLeDiff, reduceLT, Nat.reduceBEq, reduceIte]) ?_
  try simp only [go_sem, reduceEqDiff, reduceAdd, reduceSub, reduceMul, reduceLeDiff, reduceLT, Nat.reduceBEq, reduceIte]
  refine AW.ret ?_
  obtain rfl := Option.some.inj h
  refine nz ?_
  exact .tupL ⟨.nil, .same _, trivial⟩
 have h := ifF hb3 h
 refine AW.sk ?_
 refine AW.kp [] [0, 1] ?_
 refine AW.one ?_
 refine AW.op mixed ?_
 refine AW.kp [] [0, 1, 26] ?_
 refine AW.ts ((p1.length : Int) == (1 : Int)) (fun hb6 => ?_) (fun hb6 => ?_)
 ·have h := ifT hb6 h
  refine AW.one ?_
  refine AW.reg mixed (by kernel_rfl) ?_
  apply obindE h; intro x7 hx8 h
  try simp only [go_sem, reduceEqDiff, reduceAdd, reduceSub, reduceMul, reduceLeDiff, reduceLT, Nat.reduceBEq, reduceIte, (idx_some hx8).1, (idx_some hx8).2]
  apply obindE h; intro r9 hx10 h
  have hc := nx (mag_divWord_ok (h := hx10))
  refine callK_pure hc (by simp only [go_sem, reduceEqDiff, reduceAdd, reduceSub, reduceMul, reduceLeDiff, reduceLT, Nat.reduceBEq, reduceIte]) ?_
  try simp only [go_sem, reduceEqDiff, reduceAdd, reduceSub, reduceMul, reduceLeDiff, reduceLT, Nat.reduceBEq, reduceIte, (idx_some hx8).1, (idx_some hx8).2]
  refine AW.cut [] [(6, .d (slD u32V r9.1)), (7, .d (.val (.int .u32 r9.2)))] [] (by simp only [go_sem, reduceEqDiff, reduceAdd, reduceSub, reduceMul, reduceLeDiff, reduceLT, Nat.reduceBEq, reduceIte, (idx_some hx8).1, (idx_some hx8).2]) ?_
  refine AW.one ?_
  refine AW.reg mixed (by kernel_rfl) ?_
  try simp only [go_sem, reduceEqDiff, reduceAdd, reduceSub, reduceMul, reduceLeDiff, reduceLT, Nat.reduceBEq, reduceIte, cv_int (P := Tryz.prog) Tryz.underlying86 Tryz.underlying107]
  apply obindE h; intro r11 hx12 h
  have hc := nx (mag_From_ok (h := hx12))
  refine callK_pure hc (by simp only [go_sem, reduceEqDiff, reduceAdd, reduceSub, reduceMul, reduceLeDiff, reduceLT, Nat.reduceBEq, reduceIte]) ?_
  try simp only [go_sem, reduceEqDiff, reduceAdd, reduceSub, reduceMul, reduceLeDiff, reduceLT, Nat.reduceBEq, reduceIte, cv_int (P := Tryz.prog) Tryz.underlying86 Tryz.underlying107]
  refine AW.ret ?_
  obtain rfl := Option.some.inj h
  refine nz ?_
  exact .same _
 have h := ifF hb6 h
 refine AW.sk ?_
 refine AW.kp [] [0, 1] ?_
 refine AW.one ?_
 refine AW.reg mixed (by kernel_rfl) ?_
 apply obindE h; intro x13 hx14 h
 cases h
/-! ### isochrone/mag.Small -/
def mag_Small (K : Nat) (p0 : List Int) : Option (Int × Bool) := if ((p0.length : Int) == (0 : Int)) then
  some ((0 : Int), true)
 else
  if ((p0.length : Int) == (1 : Int)) then
   (idx p0 (0 : Int)).bind fun x3 =>
   some (IntKind.wrap .u64 x3, true)
  else
   if ((p0.length : Int) == (2 : Int)) then
    (idx p0 (1 : Int)).bind fun x6 =>
    (must (decide ((0 : Int) ≤ (32 : Int)))).bind fun _ =>
    (idx p0 (0 : Int)).bind fun x9 =>
    some (bOr .u64 (bShl .u64 (IntKind.wrap .u64 x6) (32 : Int)) (IntKind.wrap .u64 x9), true)
   else
    some ((0 : Int), false)
set_option maxHeartbeats 4000000 in
theorem mag_Small_ok {K : Nat} {p0 : List Int} {r : Int × Bool} (h : mag_Small K p0 = some r) : Cn Tryz.prog 111 [.d (slD u32V p0)] (.tup [.d (.val (.int .u64 r.1)), .d (.val (.bool r.2))]) := by
 have q0 := fun k z => cv_int (k' := k) (z := z) Tryz.underlying86 Tryz.underlying107
 refine Cn.oz Tryz.func111 Tryz.call111 Tryz.ntmps111 Tryz.results111 fun hfit => ?_
 unfold mag_Small at h
 refine AW.kr [] [0] ?_
 refine AW.ks [] [0] ?_
 refine AW.one ?_
 refine AW.ro ?_
 refine AW.ks [] [0, 5] ?_
 refine AW.block ?_
 refine AW.ro ?_
 refine AW.ks [] [0, 5, 6] ?_
 refine AW.tt h (fun hb1 h => ?_) fun hb1 h => ?_
 ·refine AW.ro ?_
  refine AW.ret ?_
  cases h; refine nz ?_; exact .same _
 refine AW.ro ?_
 refine AW.ks [] [0, 5, 8] ?_
 refine AW.tt h (fun hb2 h => ?_) fun hb2 h => ?_
 ·refine AW.ro ?_
  refine bx h fun x3 h0 h1 h => ?_
  refine AW.ret ?_
  cases h; refine nz ?_; exact .same _
 refine AW.ro ?_
 refine AW.ks [] [0, 14] ?_
 refine AW.tk h (fun hb5 h => ?_) fun hb5 h => ?_
 ·refine AW.ro ?_
  refine bx h fun x6 h0 h1 h => ?_
  apply bE h; intro _ hx8 h; have hx8 := ml hx8; refine ns ?_
  refine bx h fun x9 h0 h1 h => ?_
  refine AW.ret ?_
  cases h; refine nz ?_; exact .same _
 refine AW.kr [] [] ?_
 refine AW.ret ?_
 cases h; refine nz ?_; exact .same _
/-! ### isochrone/nat.Valid -/
def nat_Valid (K : Nat) (p0 : List Int) : Option Bool := if (decide ((p0.length : Int) ≤ (4096 : Int))) then
  if ((p0.length : Int) == (0 : Int)) then
   some true
  else
   (idx p0 (IntKind.wrap .i64 ((p0.length : Int) - (1 : Int)))).bind fun x3 =>
   some (x3 != (0 : Int))
 else
  some false
set_option maxHeartbeats 4000000 in
theorem nat_Valid_ok {K : Nat} {p0 : List Int} {r : Bool} (h : nat_Valid K p0 = some r) : Cn Tryz.prog 108 [.d (slD u32V p0)] (.d (.val (.bool r))) := by
 refine Cn.oz Tryz.func108 Tryz.call108 Tryz.ntmps108 Tryz.results108 fun hfit => ?_
 unfold nat_Valid at h
 refine AW.kr [] [0] ?_
 refine AW.kr [] [0] ?_
 refine sK h (fun hb1 h => ?_) fun hb1 h => ?_
 ·refine sK h (fun hb2 h => ?_) fun hb2 h => ?_
  ·refine AW.ret ?_
   cases h; refine nz ?_; exact .same _
  refine bx h fun x3 h0 h1 h => ?_
  refine AW.ret ?_
  cases h; refine nz ?_; exact .same _
 refine AW.ret ?_
 cases h; refine nz ?_; exact .same _
/-! ### isochrone/nat.digits -/
def nat_digits (K : Nat) (p0 : Int) (p1 : Int) : Option (List Int) := ((iter (S := Int × (List Int)) (R := (List Int)) K (fun again (i1_0, i1_1) =>
  ((
   ((
    if (decide ((0 : Int) < i1_0)) then
     some true
    else
     some (decide ((i1_1.length : Int) < p1))) : Option Bool).bind (fun v7_0 =>
   if v7_0 then
    some (.go ())
   else
    outM (
     some i1_1))) : Option (Out Unit _)).bind (Out.fin fun _ =>
  (must ((10 : Int) != 0)).bind fun z11 =>
  (appO 1 i1_1 [IntKind.wrap .u8 (IntKind.wrap .u64 ((48 : Int) + (i1_0.tmod (10 : Int))))]).bind fun l13 =>
  (must ((10 : Int) != 0)).bind fun z15 =>
  again (IntKind.wrap .u64 (i1_0.tdiv (10 : Int)), l13))) (p0, [])) : Option (List Int)).bind (fun e2_0 =>
 ((iter (S := Int × Int × (List Int)) (R := (List Int)) K (fun again (i17_0, i17_1, i17_2) =>
  if (decide (i17_0 < i17_1)) then
   (idx i17_2 i17_1).bind fun x22 =>
   (idx i17_2 i17_0).bind fun x24 =>
   (idx (i17_2.set (i17_0.toNat) x22) i17_1).bind fun x26 =>
   again (IntKind.wrap .i64 (i17_0 + (1 : Int)), IntKind.wrap .i64 (i17_1 - (1 : Int)), ((i17_2.set (i17_0.toNat) x22).set (i17_1.toNat) x24))
  else
   some i17_2) ((0 : Int), IntKind.wrap .i64 ((e2_0.length : Int) - (1 : Int)), e2_0)) : Option (List Int)).bind (fun e18_0 =>
 some e18_0))
set_option maxHeartbeats 4000000 in
theorem nat_digits_own {K : Nat} {p0 : Int} {p1 : Int} {r : (List Int)} (h : nat_digits K p0 p1 = some r) : Co Tryz.prog 112 [.d (.val (.int .u64 p0)), .d (.val (.int .i64 p1))] (accV 0 1 ((r.map (fun x : Int => [D.val (.int .u8 x)])).map (·.map .d))) (accO 1 ((r.map (fun x : Int => [D.val (.int .u8 x)])).map (·.map .d))) := by
 refine Co.ofA mixed Tryz.func112 rfl Tryz.call112 Tryz.ntmps112 Tryz.results112 (by simp) datO_acc (by simp only [go_sem, reduceEqDiff, reduceAdd, reduceSub, reduceMul, reduceLeDiff, reduceLT, Nat.reduceBEq, reduceIte]) fun hfit => ?_
 unfold nat_digits at h
 refine AW.kp [] [0, 1] ?_
 refine AW.op mixed ?_
 refine AW.kp [] [0, 1] ?_
 refine AW.op mixed ?_
 refine AW.kp [] [0, 1, 5] ?_
 refine AW.one ?_
 refine obindE h fun oJ4 h hJ4 => ?_
 refine AW.join (S := (List Int)) (fun e2_0 => [(5, accV 0 1 ((e2_0.map (fun x : Int => [D.val (.int .u8 x)])).map (·.map .d)))]) (fun e2_0 => [accO 1 ((e2_0.map (fun x : Int => [D.val (.int .u8 x)])).map (·.map .d))]) (fun x => x = oJ4) ?_ ?_
 ·refine AW.block ?_
  refine AW.iter (S := Int × (List Int)) (fun (i1_0, i1_1) => [(0, .d (.val (.int .u64 i1_0))), (1, .d (.val (.int .i64 p1))), (5, accV 0 1 ((i1_1.map (fun x : Int => [D.val (.int .u8 x)])).map (·.map .d)))]) (fun (i1_0, i1_1) => [accO 1 ((i1_1.map (fun x : Int => [D.val (.int .u8 x)])).map (·.map .d))]) [1000] h (by simp only [go_sem, reduceEqDiff, reduceAdd, reduceSub, reduceMul, reduceLeDiff, reduceLT, Nat.reduceBEq, reduceIte]) ?_
  rintro again ⟨i1_0, i1_1⟩ h
  try dsimp only at h
  refine AW.one ?_
  refine obindE h fun oJ6 h hJ6 => ?_
  refine AW.join (S := Unit) (fun _ => [(0, .d (.val (.int .u64 i1_0))), (1, .d (.val (.int .i64 p1))), (5, accV 0 1 ((i1_1.map (fun x : Int => [D.val (.int .u8 x)])).map (·.map .d)))]) (fun _ => [accO 1 ((i1_1.map (fun x : Int => [D.val (.int .u8 x)])).map (·.map .d))]) (fun x => oJ6 = .go x) ?_ ?_
  ·skip
   refine AW.one ?_
   refine obindE h fun oJ8 h hJ8 => ?_
   refine AW.join (S := Bool) (fun v7_0 => [(0, .d (.val (.int .u64 i1_0))), (1, .d (.val (.int .i64 p1))), (5, accV 0 1 ((i1_1.map (fun x : Int => [D.val (.int .u8 x)])).map (·.map .d))), (15, .d (.val (.bool v7_0)))]) (fun v7_0 => [accO 1 ((i1_1.map (fun x : Int => [D.val (.int .u8 x)])).map (·.map .d))]) (fun x => x = oJ8) ?_ ?_
   ·skip
    refine AW.rg mixed ?_
    refine splitK_intro (fun hb9 => ?_) (fun hb9 => ?_)
    ·have h := ifT hb9 h
     try simp only [go_sem, reduceEqDiff, reduceAdd, reduceSub, reduceMul, reduceLeDiff, reduceLT, Nat.reduceBEq, reduceIte, hb9]
     refine JoinQ.mk true [0] (Option.some.inj h) (by simp only [go_sem, reduceEqDiff, reduceAdd, reduceSub, reduceMul, reduceLeDiff, reduceLT, Nat.reduceBEq, reduceIte, hb9])
    have h := ifF hb9 h
    try simp only [go_sem, reduceEqDiff, reduceAdd, reduceSub, reduceMul, reduceLeDiff, reduceLT, Nat.reduceBEq, reduceIte, hb9]
    refine JoinQ.mk (decide ((i1_1.length : Int) < p1)) [0] (Option.some.inj h) (by simp only [go_sem, reduceEqDiff, reduceAdd, reduceSub, reduceMul, reduceLeDiff, reduceLT, Nat.reduceBEq, reduceIte, hb9])
   rintro v7_0 rfl
   have h := hJ8
   try dsimp only [Out.fin] at h
   refine nz ?_
   refine AW.ts v7_0 (fun hb10 => ?_) (fun hb10 => ?_)
   ·have h := ifT hb10 h
    refine AW.sk ?_
    exact JoinQ.ar () [0] (Option.some.inj h).symm
   have h := ifF hb10 h
   refine AW.ex ?_
   obtain ⟨_, h, ho⟩ := outM_some h
   rw [ho, Out.fin_out] at hJ6
   have h := h.trans hJ6
   exact JoinQ.ar i1_1 [0] (Option.some.inj h)
  rintro ⟨⟩ rfl
  have h := hJ6
  try dsimp only [Out.fin] at h
  refine nz ?_
  refine AW.block ?_
  refine AW.one ?_
  refine AW.reg mixed (by kernel_rfl) ?_
  apply obindE h; intro z11 hx12 h
  try simp only [go_sem, reduceEqDiff, reduceAdd, reduceSub, reduceMul, reduceLeDiff, reduceLT, Nat.reduceBEq, reduceIte, bop_rem (P := Tryz.prog) (must_ne hx12), cv_int (P := Tryz.prog) Tryz.underlying107 Tryz.underlying5]
  apply obindE h; intro l13 hx14 h
  refine appG (f := (fun x : Int => [D.val (.int .u8 x)])) hx14 rfl (by simp only [go_sem, reduceEqDiff, reduceAdd, reduceSub, reduceMul, reduceLeDiff, reduceLT, Nat.reduceBEq, reduceIte, bop_rem (P := Tryz.prog) (must_ne hx12), cv_int (P := Tryz.prog) Tryz.underlying107 Tryz.underlying5]) (srcMsl (by simp only [go_sem, reduceEqDiff, reduceAdd, reduceSub, reduceMul, reduceLeDiff, reduceLT, Nat.reduceBEq, reduceIte, bop_rem (P := Tryz.prog) (must_ne hx12), cv_int (P := Tryz.prog) Tryz.underlying107 Tryz.underlying5]) rfl) (by simp only [go_sem, reduceEqDiff, reduceAdd, reduceSub, reduceMul, reduceLeDiff, reduceLT, Nat.reduceBEq, reduceIte, bop_rem (P := Tryz.prog) (must_ne hx12), cv_int (P := Tryz.prog) Tryz.underlying107 Tryz.underlying5]) (by simp) ?_
  try simp only [go_sem, reduceEqDiff, reduceAdd, reduceSub, reduceMul, reduceLeDiff, reduceLT, Nat.reduceBEq, reduceIte, bop_rem (P := Tryz.prog) (must_ne hx12), cv_int (P := Tryz.prog) Tryz.underlying107 Tryz.underlying5]
  refine AW.cut [7] [(0, .d (.val (.int .u64 i1_0))), (1, .d (.val (.int .i64 p1))), (5, accV 0 1 ((l13.map (fun x : Int => [D.val (.int .u8 x)])).map (·.map .d)))] [accO 1 ((l13.map (fun x : Int => [D.val (.int .u8 x)])).map (·.map .d))] (by simp only [go_sem, reduceEqDiff, reduceAdd, reduceSub, reduceMul, reduceLeDiff, reduceLT, Nat.reduceBEq, reduceIte, bop_rem (P := Tryz.prog) (must_ne hx12), cv_int (P := Tryz.prog) Tryz.underlying107 Tryz.underlying5]) ?_
  refine AW.reg mixed (by kernel_rfl) ?_
  apply obindE h; intro z15 hx16 h
  try simp only [go_sem, reduceEqDiff, reduceAdd, reduceSub, reduceMul, reduceLeDiff, reduceLT, Nat.reduceBEq, reduceIte, bop_quo (P := Tryz.prog) (must_ne hx16)]
  refine NextQ.mk (IntKind.wrap .u64 (i1_0.tdiv (10 : Int)), l13) [0] h (by simp only [go_sem, reduceEqDiff, reduceAdd, reduceSub, reduceMul, reduceLeDiff, reduceLT, Nat.reduceBEq, reduceIte, bop_quo (P := Tryz.prog) (must_ne hx16)])
 rintro e2_0 rfl
 have h := hJ4
 try dsimp only [Out.fin] at h
 refine nz ?_
 refine AW.cu [0] [(5, accV 0 1 ((e2_0.map (fun x : Int => [D.val (.int .u8 x)])).map (·.map .d)))] [accO 1 ((e2_0.map (fun x : Int => [D.val (.int .u8 x)])).map (·.map .d))] ?_
 refine AW.one ?_
 refine AW.op mixed ?_
 refine AW.cu [0] [(5, accV 0 1 ((e2_0.map (fun x : Int => [D.val (.int .u8 x)])).map (·.map .d))), (6, .d (.val (.int .i64 (0 : Int)))), (7, .d (.val (.int .i64 (IntKind.wrap .i64 ((e2_0.length : Int) - (1 : Int))))))] [accO 1 ((e2_0.map (fun x : Int => [D.val (.int .u8 x)])).map (·.map .d))] ?_
 refine obindE h fun oJ20 h hJ20 => ?_
 refine AW.join (S := (List Int)) (fun e18_0 => [(5, accV 0 1 ((e18_0.map (fun x : Int => [D.val (.int .u8 x)])).map (·.map .d)))]) (fun e18_0 => [accO 1 ((e18_0.map (fun x : Int => [D.val (.int .u8 x)])).map (·.map .d))]) (fun x => x = oJ20) ?_ ?_
 ·refine AW.block ?_
  refine AW.iter (S := Int × Int × (List Int)) (fun (i17_0, i17_1, i17_2) => [(5, accV 0 1 ((i17_2.map (fun x : Int => [D.val (.int .u8 x)])).map (·.map .d))), (6, .d (.val (.int .i64 i17_0))), (7, .d (.val (.int .i64 i17_1)))]) (fun (i17_0, i17_1, i17_2) => [accO 1 ((i17_2.map (fun x : Int => [D.val (.int .u8 x)])).map (·.map .d))]) [0] h (by simp only [go_sem, reduceEqDiff, reduceAdd, reduceSub, reduceMul, reduceLeDiff, reduceLT, Nat.reduceBEq, reduceIte]) ?_
  rintro again ⟨i17_0, i17_1, i17_2⟩ h
  try dsimp only at h
  refine AW.one ?_
  refine AW.op mixed ?_
  refine AW.cu [0] [(5, accV 0 1 ((i17_2.map (fun x : Int => [D.val (.int .u8 x)])).map (·.map .d))), (6, .d (.val (.int .i64 i17_0))), (7, .d (.val (.int .i64 i17_1))), (30, .d (.val (.bool (decide (i17_0 < i17_1)))))] [accO 1 ((i17_2.map (fun x : Int => [D.val (.int .u8 x)])).map (·.map .d))] ?_
  refine AW.ts (decide (i17_0 < i17_1)) (fun hb21 => ?_) (fun hb21 => ?_)
  ·have h := ifT hb21 h
   refine AW.sk ?_
   refine AW.cu [0] [(5, accV 0 1 ((i17_2.map (fun x : Int => [D.val (.int .u8 x)])).map (·.map .d))), (6, .d (.val (.int .i64 i17_0))), (7, .d (.val (.int .i64 i17_1)))] [accO 1 ((i17_2.map (fun x : Int => [D.val (.int .u8 x)])).map (·.map .d))] ?_
   refine AW.one ?_
   refine AW.block ?_
   refine AW.rg mixed ?_
   apply obindE h; intro x22 hx23 h
   try simp only [go_sem, reduceEqDiff, reduceAdd, reduceSub, reduceMul, reduceLeDiff, reduceLT, Nat.reduceBEq, reduceIte, (idx_some hx23).1, idx_lt hx23, (idx_some hx23).2, accV_idx hx23, accO_idx hx23]
   apply obindE h; intro x24 hx25 h
   try simp only [go_sem, reduceEqDiff, reduceAdd, reduceSub, reduceMul, reduceLeDiff, reduceLT, Nat.reduceBEq, reduceIte, (idx_some hx23).1, idx_lt hx23, (idx_some hx23).2, accV_idx hx23, accO_idx hx23, (idx_some hx25).1, idx_lt hx25, (idx_some hx25).2, accV_idx hx25, accO_idx hx25, accV_set hx25, accO_set hx25, List.length_set, (rows_set (l := i17_2) (f := (fun x : Int => [D.val (.int .u8 x)])) (i := i17_0.toNat) (v' := x22) (row := [.d (.val (.int .u8 x22))]) (by simp only [go_sem, reduceEqDiff, reduceAdd, reduceSub, reduceMul, reduceLeDiff, reduceLT, Nat.reduceBEq, reduceIte]))]
   apply obindE h; intro x26 hx27 h
   try simp only [go_sem, reduceEqDiff, reduceAdd, reduceSub, reduceMul, reduceLeDiff, reduceLT, Nat.reduceBEq, reduceIte, (idx_some hx23).1, idx_lt hx23, (idx_some hx23).2, accV_idx hx23, accO_idx hx23, (idx_some hx25).1, idx_lt hx25, (idx_some hx25).2, accV_idx hx25, accO_idx hx25, accV_set hx25, accO_set hx25, List.length_set, (rows_set (l := i17_2) (f := (fun x : Int => [D.val (.int .u8 x)])) (i := i17_0.toNat) (v' := x22) (row := [.d (.val (.int .u8 x22))]) (by simp only [go_sem, reduceEqDiff, reduceAdd, reduceSub, reduceMul, reduceLeDiff, reduceLT, Nat.reduceBEq, reduceIte])), (idx_some hx27).1, idx_lt_set hx27, idx_lt hx27, (idx_some hx27).2, accV_idx hx27, accO_idx hx27, accV_set hx27, accO_set hx27, (rows_set (l := (i17_2.set (i17_0.toNat) x22)) (f := (fun x : Int => [D.val (.int .u8 x)])) (i := i17_1.toNat) (v' := x24) (row := [.d (.val (.int .u8 x24))]) (by simp only [go_sem, reduceEqDiff, reduceAdd, reduceSub, reduceMul, reduceLeDiff, reduceLT, Nat.reduceBEq, reduceIte]))]
   refine AW.cut [0] [(5, accV 0 1 ((((i17_2.set (i17_0.toNat) x22).set (i17_1.toNat) x24).map (fun x : Int => [D.val (.int .u8 x)])).map (·.map .d))), (6, .d (.val (.int .i64 i17_0))), (7, .d (.val (.int .i64 i17_1)))] [accO 1 ((((i17_2.set (i17_0.toNat) x22).set (i17_1.toNat) x24).map (fun x : Int => [D.val (.int .u8 x)])).map (·.map .d))] (by simp only [go_sem, reduceEqDiff, reduceAdd, reduceSub, reduceMul, reduceLeDiff, reduceLT, Nat.reduceBEq, reduceIte, (idx_some hx23).1, idx_lt hx23, (idx_some hx23).2, accV_idx hx23, accO_idx hx23, (idx_some hx25).1, idx_lt hx25, (idx_some hx25).2, accV_idx hx25, accO_idx hx25, accV_set hx25, accO_set hx25, List.length_set, (rows_set (l := i17_2) (f := (fun x : Int => [D.val (.int .u8 x)])) (i := i17_0.toNat) (v' := x22) (row := [.d (.val (.int .u8 x22))]) (by simp only [go_sem, reduceEqDiff, reduceAdd, reduceSub, reduceMul, reduceLeDiff, reduceLT, Nat.reduceBEq, reduceIte])), (idx_some hx27).1, idx_lt_set hx27, idx_lt hx27, (idx_some hx27).2, accV_idx hx27, accO_idx hx27, accV_set hx27, accO_set hx27, (rows_set (l := (i17_2.set (i17_0.toNat) x22)) (f := (fun x : Int => [D.val (.int .u8 x)])) (i := i17_1.toNat) (v' := x24) (row := [.d (.val (.int .u8 x24))]) (by simp only [go_sem, reduceEqDiff, reduceAdd, reduceSub, reduceMul, reduceLeDiff, reduceLT, Nat.reduceBEq, reduceIte]))]) ?_
   refine AW.rg mixed ?_
   try simp only [accV_idx hx23, accO_idx hx23, accV_idx hx25, accO_idx hx25, List.length_set, accV_idx hx27, accO_idx hx27]
   exact NextQ.ar (IntKind.wrap .i64 (i17_0 + (1 : Int)), IntKind.wrap .i64 (i17_1 - (1 : Int)), ((i17_2.set (i17_0.toNat) x22).set (i17_1.toNat) x24)) [0] h
  have h := ifF hb21 h
  refine AW.ex ?_
  exact JoinQ.ar i17_2 [0] (Option.some.inj h)
 rintro e18_0 rfl
 have h := hJ20
 try dsimp only [Out.fin] at h
 refine nz ?_
 refine AW.cu [0] [(5, accV 0 1 ((e18_0.map (fun x : Int => [D.val (.int .u8 x)])).map (·.map .d)))] [accO 1 ((e18_0.map (fun x : Int => [D.val (.int .u8 x)])).map (·.map .d))] ?_
 refine AW.op mixed ?_
 refine AW.ret ?_
 obtain rfl := Option.some.inj h
 refine nz ?_
 refine OwnRes.mk 0 (nz ?_) (by simp only [go_sem, reduceEqDiff, reduceAdd, reduceSub, reduceMul, reduceLeDiff, reduceLT, Nat.reduceBEq, reduceIte])
 exact .same _
/-! ### isochrone/nat.Text -/
def nat_Text (K : Nat) (p0 : List Int) : Option (ByteArray × Int) := (nat_Valid K p0).bind fun r1 =>
 if (!r1) then
  some ((⟨#[]⟩ : ByteArray), (3 : Int))
 else
  if ((p0.length : Int) == (0 : Int)) then
   some ((⟨#[48]⟩ : ByteArray), (0 : Int))
  else
   (mag_From K (1000000000 : Int)).bind fun r5 =>
   ((iter (S := (List Int) × (List Int)) (R := (List Int)) K (fun again (i7_0, i7_1) =>
    if (decide ((0 : Int) < (i7_0.length : Int))) then
     (mag_DivMod K i7_0 r5).bind fun r12 =>
     (mag_Small K r12.2).bind fun r14 =>
     (appO 8 i7_1 [r14.1]).bind fun l16 =>
     again (r12.1, l16)
    else
     some i7_1) (p0, [])) : Option (List Int)).bind (fun e8_0 =>
   (idx e8_0 (IntKind.wrap .i64 ((e8_0.length : Int) - (1 : Int)))).bind fun x18 =>
   (nat_digits K x18 (0 : Int)).bind fun r20 =>
   ((iter (S := Int × (List Int)) (R := (List Int)) K (fun again (i22_0, i22_1) =>
    if (decide ((0 : Int) ≤ i22_0)) then
     (makO 1 (9 : Int) (0 : Int)).bind fun l27 =>
     (idx e8_0 i22_0).bind fun x29 =>
     (nat_digits K x29 (9 : Int)).bind fun r31 =>
     (copyO l27 r31).bind fun l33 =>
     (must (!l33.isEmpty)).bind fun _ =>
     (appO 1 i22_1 l33).bind fun l35 =>
     again (IntKind.wrap .i64 (i22_0 - (1 : Int)), l35)
    else
     some i22_1) (IntKind.wrap .i64 ((e8_0.length : Int) - (2 : Int)), r20)) : Option (List Int)).bind (fun e23_0 =>
   some (strOfNums e23_0, (0 : Int))))
set_option maxHeartbeats 4000000 in
theorem nat_Text_ok {K : Nat} {p0 : List Int} {r : ByteArray × Int} (h : nat_Text K p0 = some r) : Cn Tryz.prog 86 [.d (slD u32V p0)] (.tup [.d (.val (.string r.1)), .d (.val (.int .i64 r.2))]) := by
 refine Cn.ofA mixed Tryz.func86 rfl Tryz.call86 Tryz.ntmps86 Tryz.results86 (by simp) (by simp only [go_sem, reduceEqDiff, reduceAdd, reduceSub, reduceMul, reduceLeDiff, reduceLT, Nat.reduceBEq, reduceIte]) fun hfit => ?_
 unfold nat_Text at h
 refine AW.kp [] [0] ?_
 refine AW.op mixed ?_
 refine AW.kp [] [0] ?_
 refine AW.one ?_
 refine AW.op mixed ?_
 apply obindE h; intro r1 hx2 h
 have hc := nx (nat_Valid_ok (h := hx2))
 refine callP hc ?_
 refine AW.kp [] [0, 15] ?_
 refine AW.ts (!r1) (fun hb3 => ?_) (fun hb3 => ?_)
 ·have h := ifT hb3 h
  refine AW.op mixed ?_
  refine AW.ret ?_
  obtain rfl := Option.some.inj h
  refine nz ?_
  exact .same _
 have h := ifF hb3 h
 refine AW.sk ?_
 refine AW.kp [] [0] ?_
 refine AW.one ?_
 refine AW.op mixed ?_
 refine AW.kp [] [0, 18] ?_
 refine AW.ts ((p0.length : Int) == (0 : Int)) (fun hb4 => ?_) (fun hb4 => ?_)
 ·have h := ifT hb4 h
  refine AW.op mixed ?_
  refine AW.ret ?_
  obtain rfl := Option.some.inj h
  refine nz ?_
  exact .same _
 have h := ifF hb4 h
 refine AW.sk ?_
 refine AW.kp [] [0] ?_
 refine AW.op mixed ?_
 refine AW.kp [] [0, 4] ?_
 refine AW.one ?_
 refine AW.op mixed ?_
 apply obindE h; intro r5 hx6 h
 have hc := nx (mag_From_ok (h := hx6))
 refine callP hc ?_
 refine AW.kp [] [0, 4, 5] ?_
 refine obindE h fun oJ10 h hJ10 => ?_
 refine AW.join (S := (List Int)) (fun e8_0 => [(4, accV 0 1 ((e8_0.map (fun x : Int => [D.val (.int .u64 x)])).map (·.map .d)))]) (fun e8_0 => [accO 1 ((e8_0.map (fun x : Int => [D.val (.int .u64 x)])).map (·.map .d))]) (fun x => x = oJ10) ?_ ?_
 ·refine AW.block ?_
  refine AW.iter (S := (List Int) × (List Int)) (fun (i7_0, i7_1) => [(0, .d (slD u32V i7_0)), (4, accV 0 1 ((i7_1.map (fun x : Int => [D.val (.int .u64 x)])).map (·.map .d))), (5, .d (slD u32V r5))]) (fun (i7_0, i7_1) => [accO 1 ((i7_1.map (fun x : Int => [D.val (.int .u64 x)])).map (·.map .d))]) [1000] h (by simp only [go_sem, reduceEqDiff, reduceAdd, reduceSub, reduceMul, reduceLeDiff, reduceLT, Nat.reduceBEq, reduceIte]) ?_
  rintro again ⟨i7_0, i7_1⟩ h
  try dsimp only at h
  refine AW.one ?_
  refine AW.op mixed ?_
  refine AW.cu [0] [(0, .d (slD u32V i7_0)), (4, accV 0 1 ((i7_1.map (fun x : Int => [D.val (.int .u64 x)])).map (·.map .d))), (5, .d (slD u32V r5)), (22, .d (.val (.bool (decide ((0 : Int) < (i7_0.length : Int))))))] [accO 1 ((i7_1.map (fun x : Int => [D.val (.int .u64 x)])).map (·.map .d))] ?_
  refine AW.ts (decide ((0 : Int) < (i7_0.length : Int))) (fun hb11 => ?_) (fun hb11 => ?_)
  ·have h := ifT hb11 h
   refine AW.sk ?_
   refine AW.cu [0] [(0, .d (slD u32V i7_0)), (4, accV 0 1 ((i7_1.map (fun x : Int => [D.val (.int .u64 x)])).map (·.map .d))), (5, .d (slD u32V r5))] [accO 1 ((i7_1.map (fun x : Int => [D.val (.int .u64 x)])).map (·.map .d))] ?_
   refine AW.block ?_
   refine AW.op mixed ?_
   apply obindE h; intro r12 hx13 h
   have hc := nx (mag_DivMod_ok (h := hx13))
   refine callP hc ?_
   refine AW.cu [0] [(4, accV 0 1 ((i7_1.map (fun x : Int => [D.val (.int .u64 x)])).map (·.map .d))), (5, .d (slD u32V r5)), (6, .d (slD u32V r12.1)), (7, .d (slD u32V r12.2))] [accO 1 ((i7_1.map (fun x : Int => [D.val (.int .u64 x)])).map (·.map .d))] ?_
   refine AW.op mixed ?_
   apply obindE h; intro r14 hx15 h
   have hc := nx (mag_Small_ok (h := hx15))
   refine callP hc ?_
   refine AW.cu [0] [(4, accV 0 1 ((i7_1.map (fun x : Int => [D.val (.int .u64 x)])).map (·.map .d))), (5, .d (slD u32V r5)), (6, .d (slD u32V r12.1)), (8, .d (.val (.int .u64 r14.1)))] [accO 1 ((i7_1.map (fun x : Int => [D.val (.int .u64 x)])).map (·.map .d))] ?_
   refine AW.op mixed ?_
   apply obindE h; intro l16 hx17 h
   refine appG (f := (fun x : Int => [D.val (.int .u64 x)])) hx17 rfl (by simp only [go_sem, reduceEqDiff, reduceAdd, reduceSub, reduceMul, reduceLeDiff, reduceLT, Nat.reduceBEq, reduceIte]) (by simp only [go_sem, reduceEqDiff, reduceAdd, reduceSub, reduceMul, reduceLeDiff, reduceLT, Nat.reduceBEq, reduceIte]) (by simp only [go_sem, reduceEqDiff, reduceAdd, reduceSub, reduceMul, reduceLeDiff, reduceLT, Nat.reduceBEq, reduceIte]) (by simp) ?_
   try simp only [go_sem, reduceEqDiff, reduceAdd, reduceSub, reduceMul, reduceLeDiff, reduceLT, Nat.reduceBEq, reduceIte]
   refine AW.cu [4] [(4, accV 0 1 ((l16.map (fun x : Int => [D.val (.int .u64 x)])).map (·.map .d))), (5, .d (slD u32V r5)), (6, .d (slD u32V r12.1))] [accO 1 ((l16.map (fun x : Int => [D.val (.int .u64 x)])).map (·.map .d))] ?_
   refine AW.rg mixed ?_
   exact NextQ.ar (r12.1, l16) [0] h
  have h := ifF hb11 h
  refine AW.ex ?_
  exact JoinQ.ar i7_1 [0] (Option.some.inj h)
 rintro e8_0 rfl
 have h := hJ10
 try dsimp only [Out.fin] at h
 refine nz ?_
 refine AW.cu [0] [(4, accV 0 1 ((e8_0.map (fun x : Int => [D.val (.int .u64 x)])).map (·.map .d)))] [accO 1 ((e8_0.map (fun x : Int => [D.val (.int .u64 x)])).map (·.map .d))] ?_
 refine AW.op mixed ?_
 apply obindE h; intro x18 hx19 h
 try simp only [go_sem, reduceEqDiff, reduceAdd, reduceSub, reduceMul, reduceLeDiff, reduceLT, Nat.reduceBEq, reduceIte, (idx_some hx19).1, idx_lt hx19, (idx_some hx19).2, accV_idx hx19, accO_idx hx19]
 apply obindE h; intro r20 hx21 h
 have hc := nx (nat_digits_own (h := hx21))
 refine callK_own hc (by simp only [go_sem, reduceEqDiff, reduceAdd, reduceSub, reduceMul, reduceLeDiff, reduceLT, Nat.reduceBEq, reduceIte]) ?_
 try simp only [go_sem, reduceEqDiff, reduceAdd, reduceSub, reduceMul, reduceLeDiff, reduceLT, Nat.reduceBEq, reduceIte, (idx_some hx19).1, idx_lt hx19, (idx_some hx19).2, accV_idx hx19, accO_idx hx19]
 refine AW.cut [0, 7] [(4, accV 0 1 ((e8_0.map (fun x : Int => [D.val (.int .u64 x)])).map (·.map .d))), (10, accV 1 1 ((r20.map (fun x : Int => [D.val (.int .u8 x)])).map (·.map .d)))] [accO 1 ((e8_0.map (fun x : Int => [D.val (.int .u64 x)])).map (·.map .d)), accO 1 ((r20.map (fun x : Int => [D.val (.int .u8 x)])).map (·.map .d))] (by simp only [go_sem, reduceEqDiff, reduceAdd, reduceSub, reduceMul, reduceLeDiff, reduceLT, Nat.reduceBEq, reduceIte, (idx_some hx19).1, idx_lt hx19, (idx_some hx19).2, accV_idx hx19, accO_idx hx19]) ?_
 refine AW.one ?_
 refine AW.op mixed ?_
 refine AW.cu [0, 1] [(4, accV 0 1 ((e8_0.map (fun x : Int => [D.val (.int .u64 x)])).map (·.map .d))), (10, accV 1 1 ((r20.map (fun x : Int => [D.val (.int .u8 x)])).map (·.map .d))), (11, .d (.val (.int .i64 (IntKind.wrap .i64 ((e8_0.length : Int) - (2 : Int))))))] [accO 1 ((e8_0.map (fun x : Int => [D.val (.int .u64 x)])).map (·.map .d)), accO 1 ((r20.map (fun x : Int => [D.val (.int .u8 x)])).map (·.map .d))] ?_
 refine obindE h fun oJ25 h hJ25 => ?_
 refine AW.join (S := (List Int)) (fun e23_0 => [(10, accV 0 1 ((e23_0.map (fun x : Int => [D.val (.int .u8 x)])).map (·.map .d)))]) (fun e23_0 => [accO 1 ((e23_0.map (fun x : Int => [D.val (.int .u8 x)])).map (·.map .d))]) (fun x => x = oJ25) ?_ ?_
 ·refine AW.block ?_
  refine AW.iter (S := Int × (List Int)) (fun (i22_0, i22_1) => [(4, accV 0 1 ((e8_0.map (fun x : Int => [D.val (.int .u64 x)])).map (·.map .d))), (10, accV 1 1 ((i22_1.map (fun x : Int => [D.val (.int .u8 x)])).map (·.map .d))), (11, .d (.val (.int .i64 i22_0)))]) (fun (i22_0, i22_1) => [accO 1 ((e8_0.map (fun x : Int => [D.val (.int .u64 x)])).map (·.map .d)), accO 1 ((i22_1.map (fun x : Int => [D.val (.int .u8 x)])).map (·.map .d))]) [0, 1] h (by simp only [go_sem, reduceEqDiff, reduceAdd, reduceSub, reduceMul, reduceLeDiff, reduceLT, Nat.reduceBEq, reduceIte]) ?_
  rintro again ⟨i22_0, i22_1⟩ h
  try dsimp only at h
  refine AW.one ?_
  refine AW.op mixed ?_
  refine AW.cu [0, 1] [(4, accV 0 1 ((e8_0.map (fun x : Int => [D.val (.int .u64 x)])).map (·.map .d))), (10, accV 1 1 ((i22_1.map (fun x : Int => [D.val (.int .u8 x)])).map (·.map .d))), (11, .d (.val (.int .i64 i22_0))), (50, .d (.val (.bool (decide ((0 : Int) ≤ i22_0)))))] [accO 1 ((e8_0.map (fun x : Int => [D.val (.int .u64 x)])).map (·.map .d)), accO 1 ((i22_1.map (fun x : Int => [D.val (.int .u8 x)])).map (·.map .d))] ?_
  refine AW.ts (decide ((0 : Int) ≤ i22_0)) (fun hb26 => ?_) (fun hb26 => ?_)
  ·have h := ifT hb26 h
   refine AW.sk ?_
   refine AW.cu [0, 1] [(4, accV 0 1 ((e8_0.map (fun x : Int => [D.val (.int .u64 x)])).map (·.map .d))), (10, accV 1 1 ((i22_1.map (fun x : Int => [D.val (.int .u8 x)])).map (·.map .d))), (11, .d (.val (.int .i64 i22_0)))] [accO 1 ((e8_0.map (fun x : Int => [D.val (.int .u64 x)])).map (·.map .d)), accO 1 ((i22_1.map (fun x : Int => [D.val (.int .u8 x)])).map (·.map .d))] ?_
   refine AW.one ?_
   refine AW.block ?_
   refine AW.op mixed ?_
   apply obindE h; intro l27 hx28 h
   refine makG (f := (fun x : Int => [D.val (.int .u8 x)])) hx28 (nz ?_) ?_
   ·exact ⟨.same _, trivial⟩
   try simp only [go_sem, reduceEqDiff, reduceAdd, reduceSub, reduceMul, reduceLeDiff, reduceLT, Nat.reduceBEq, reduceIte]
   refine AW.cu [0, 1, 2] [(4, accV 0 1 ((e8_0.map (fun x : Int => [D.val (.int .u64 x)])).map (·.map .d))), (10, accV 1 1 ((i22_1.map (fun x : Int => [D.val (.int .u8 x)])).map (·.map .d))), (11, .d (.val (.int .i64 i22_0))), (12, .msl 2 1 0 (l27.length))] [accO 1 ((e8_0.map (fun x : Int => [D.val (.int .u64 x)])).map (·.map .d)), accO 1 ((i22_1.map (fun x : Int => [D.val (.int .u8 x)])).map (·.map .d)), some ⟨1, (l27.map (fun x : Int => [D.val (.int .u8 x)])).map (·.map .d)⟩] ?_
   refine AW.op mixed ?_
   apply obindE h; intro x29 hx30 h
   try simp only [go_sem, reduceEqDiff, reduceAdd, reduceSub, reduceMul, reduceLeDiff, reduceLT, Nat.reduceBEq, reduceIte, (idx_some hx30).1, idx_lt hx30, (idx_some hx30).2, accV_idx hx30, accO_idx hx30]
   apply obindE h; intro r31 hx32 h
   have hc := nx (nat_digits_own (h := hx32))
   refine callK_own hc (by simp only [go_sem, reduceEqDiff, reduceAdd, reduceSub, reduceMul, reduceLeDiff, reduceLT, Nat.reduceBEq, reduceIte]) ?_
   try simp only [go_sem, reduceEqDiff, reduceAdd, reduceSub, reduceMul, reduceLeDiff, reduceLT, Nat.reduceBEq, reduceIte, (idx_some hx30).1, idx_lt hx30, (idx_some hx30).2, accV_idx hx30, accO_idx hx30]
   apply obindE h; intro l33 hx34 h
   refine copyG (f := (fun x : Int => [D.val (.int .u8 x)])) hx34 (by simp only [go_sem, reduceEqDiff, reduceAdd, reduceSub, reduceMul, reduceLeDiff, reduceLT, Nat.reduceBEq, reduceIte, (idx_some hx30).1, idx_lt hx30, (idx_some hx30).2, accV_idx hx30, accO_idx hx30]) (srcAcc (by simp only [go_sem, reduceEqDiff, reduceAdd, reduceSub, reduceMul, reduceLeDiff, reduceLT, Nat.reduceBEq, reduceIte, (idx_some hx30).1, idx_lt hx30, (idx_some hx30).2, accV_idx hx30, accO_idx hx30])) (by simp only [go_sem, reduceEqDiff, reduceAdd, reduceSub, reduceMul, reduceLeDiff, reduceLT, Nat.reduceBEq, reduceIte, (idx_some hx30).1, idx_lt hx30, (idx_some hx30).2, accV_idx hx30, accO_idx hx30]) ?_
   try simp only [go_sem, reduceEqDiff, reduceAdd, reduceSub, reduceMul, reduceLeDiff, reduceLT, Nat.reduceBEq, reduceIte, (idx_some hx30).1, idx_lt hx30, (idx_some hx30).2, accV_idx hx30, accO_idx hx30, copyO_len hx34]
   refine AW.cut [0, 1, 2] [(4, accV 0 1 ((e8_0.map (fun x : Int => [D.val (.int .u64 x)])).map (·.map .d))), (10, accV 1 1 ((i22_1.map (fun x : Int => [D.val (.int .u8 x)])).map (·.map .d))), (11, .d (.val (.int .i64 i22_0))), (12, .msl 2 1 0 (l33.length))] [accO 1 ((e8_0.map (fun x : Int => [D.val (.int .u64 x)])).map (·.map .d)), accO 1 ((i22_1.map (fun x : Int => [D.val (.int .u8 x)])).map (·.map .d)), some ⟨1, (l33.map (fun x : Int => [D.val (.int .u8 x)])).map (·.map .d)⟩] (by simp only [go_sem, reduceEqDiff, reduceAdd, reduceSub, reduceMul, reduceLeDiff, reduceLT, Nat.reduceBEq, reduceIte, (idx_some hx30).1, idx_lt hx30, (idx_some hx30).2, accV_idx hx30, accO_idx hx30, copyO_len hx34]) ?_
   refine AW.rg mixed ?_
   apply obindE h; intro _ hx37 h
   apply obindE h; intro l35 hx36 h
   refine appG (f := (fun x : Int => [D.val (.int .u8 x)])) hx36 rfl (by simp only [go_sem, reduceEqDiff, reduceAdd, reduceSub, reduceMul, reduceLeDiff, reduceLT, Nat.reduceBEq, reduceIte]) (srcMsl (by simp only [go_sem, reduceEqDiff, reduceAdd, reduceSub, reduceMul, reduceLeDiff, reduceLT, Nat.reduceBEq, reduceIte]) (by simp)) (by simp only [go_sem, reduceEqDiff, reduceAdd, reduceSub, reduceMul, reduceLeDiff, reduceLT, Nat.reduceBEq, reduceIte]) (must_ne0 hx37) ?_
   try simp only [go_sem, reduceEqDiff, reduceAdd, reduceSub, reduceMul, reduceLeDiff, reduceLT, Nat.reduceBEq, reduceIte]
   refine AW.cu [0, 5] [(4, accV 0 1 ((e8_0.map (fun x : Int => [D.val (.int .u64 x)])).map (·.map .d))), (10, accV 1 1 ((l35.map (fun x : Int => [D.val (.int .u8 x)])).map (·.map .d))), (11, .d (.val (.int .i64 i22_0)))] [accO 1 ((e8_0.map (fun x : Int => [D.val (.int .u64 x)])).map (·.map .d)), accO 1 ((l35.map (fun x : Int => [D.val (.int .u8 x)])).map (·.map .d))] ?_
   refine AW.rg mixed ?_
   try simp only [accV_idx hx19, accO_idx hx19, accV_idx hx30, accO_idx hx30]
   exact NextQ.ar (IntKind.wrap .i64 (i22_0 - (1 : Int)), l35) [0, 1] h
  have h := ifF hb26 h
  refine AW.ex ?_
  try simp only [accV_idx hx19, accO_idx hx19]
  exact JoinQ.ar i22_1 [1] (Option.some.inj h)
 rintro e23_0 rfl
 have h := hJ25
 try dsimp only [Out.fin] at h
 refine nz ?_
 refine AW.cu [0] [(10, accV 0 1 ((e23_0.map (fun x : Int => [D.val (.int .u8 x)])).map (·.map .d)))] [accO 1 ((e23_0.map (fun x : Int => [D.val (.int .u8 x)])).map (·.map .d))] ?_
 refine AW.op mixed ?_
 refine cnvG rfl (by kernel_rfl) (by simp only [go_sem, reduceEqDiff, reduceAdd, reduceSub, reduceMul, reduceLeDiff, reduceLT, Nat.reduceBEq, reduceIte]) ?_
 try simp only [go_sem, reduceEqDiff, reduceAdd, reduceSub, reduceMul, reduceLeDiff, reduceLT, Nat.reduceBEq, reduceIte]
 refine AW.ret ?_
 obtain rfl := Option.some.inj h
 refine nz ?_
 exact .same _
/-! ### isochrone/text.signs -/
def text_signs (K : Nat) (p0 : Int) : Option ByteArray := if (p0 == (5 : Int)) then
  some (⟨#[32, 43, 32]⟩ : ByteArray)
 else
  if (p0 == (6 : Int)) then
   some (⟨#[32, 45, 32]⟩ : ByteArray)
  else
   if (p0 == (7 : Int)) then
    some (⟨#[32, 42, 32]⟩ : ByteArray)
   else
    if (p0 == (8 : Int)) then
     some (⟨#[32, 47, 32]⟩ : ByteArray)
    else
     if (p0 == (9 : Int)) then
      some (⟨#[32, 94, 32]⟩ : ByteArray)
     else
      if (p0 == (29 : Int)) then
       some (⟨#[32, 38, 32]⟩ : ByteArray)
      else
       if (p0 == (30 : Int)) then
        some (⟨#[32, 124, 32]⟩ : ByteArray)
       else
        if (p0 == (31 : Int)) then
         some (⟨#[32, 45, 62, 32]⟩ : ByteArray)
        else
         if (p0 == (32 : Int)) then
          some (⟨#[32, 60, 45, 62, 32]⟩ : ByteArray)
         else
          some (⟨#[]⟩ : ByteArray)
set_option maxHeartbeats 4000000 in
theorem text_signs_ok {K : Nat} {p0 : Int} {r : ByteArray} (h : text_signs K p0 = some r) : Cn Tryz.prog 60 [.d (.val (.int .i64 p0))] (.d (.val (.string r))) := by
 refine Cn.oz Tryz.func60 Tryz.call60 Tryz.ntmps60 Tryz.results60 fun hfit => ?_
 unfold text_signs at h
 refine AW.kr [] [0] ?_
 refine AW.ks [] [0] ?_
 refine AW.one ?_
 refine AW.ro ?_
 refine AW.ks [] [3] ?_
 refine AW.block ?_
 refine AW.ro ?_
 refine AW.ks [] [3, 4] ?_
 refine AW.tt h (fun hb1 h => ?_) fun hb1 h => ?_
 ·refine AW.ro ?_
  refine AW.ret ?_
  cases h; refine nz ?_; exact .same _
 refine AW.ro ?_
 refine AW.ks [] [3, 6] ?_
 refine AW.tt h (fun hb2 h => ?_) fun hb2 h => ?_
 ·refine AW.ro ?_
  refine AW.ret ?_
  cases h; refine nz ?_; exact .same _
 refine AW.ro ?_
 refine AW.ks [] [3, 8] ?_
 refine AW.tt h (fun hb3 h => ?_) fun hb3 h => ?_
 ·refine AW.ro ?_
  refine AW.ret ?_
  cases h; refine nz ?_; exact .same _
 refine AW.ro ?_
 refine AW.ks [] [3, 10] ?_
 refine AW.tt h (fun hb4 h => ?_) fun hb4 h => ?_
 ·refine AW.ro ?_
  refine AW.ret ?_
  cases h; refine nz ?_; exact .same _
 refine AW.ro ?_
 refine AW.ks [] [3, 12] ?_
 refine AW.tt h (fun hb5 h => ?_) fun hb5 h => ?_
 ·refine AW.ro ?_
  refine AW.ret ?_
  cases h; refine nz ?_; exact .same _
 refine AW.ro ?_
 refine AW.ks [] [3, 14] ?_
 refine AW.tt h (fun hb6 h => ?_) fun hb6 h => ?_
 ·refine AW.ro ?_
  refine AW.ret ?_
  cases h; refine nz ?_; exact .same _
 refine AW.ro ?_
 refine AW.ks [] [3, 16] ?_
 refine AW.tt h (fun hb7 h => ?_) fun hb7 h => ?_
 ·refine AW.ro ?_
  refine AW.ret ?_
  cases h; refine nz ?_; exact .same _
 refine AW.ro ?_
 refine AW.ks [] [3, 18] ?_
 refine AW.tt h (fun hb8 h => ?_) fun hb8 h => ?_
 ·refine AW.ro ?_
  refine AW.ret ?_
  cases h; refine nz ?_; exact .same _
 refine AW.ro ?_
 refine AW.ks [] [20] ?_
 refine AW.tk h (fun hb9 h => ?_) fun hb9 h => ?_
 ·refine AW.ro ?_
  refine AW.ret ?_
  cases h; refine nz ?_; exact .same _
 refine AW.kr [] [] ?_
 refine AW.ret ?_
 cases h; refine nz ?_; exact .same _
/-! ### isochrone/tree.Sort -/
def tree_Sort (K : Nat) (p0 : Int) : Option Int := ((
  if (decide ((1 : Int) ≤ p0)) then
   some (decide (p0 ≤ (13 : Int)))
  else
   some false) : Option Bool).bind (fun v1_0 =>
 if v1_0 then
  some (1 : Int)
 else
  ((
   if (decide ((20 : Int) ≤ p0)) then
    some (decide (p0 ≤ (39 : Int)))
   else
    some false) : Option Bool).bind (fun v5_0 =>
  if v5_0 then
   some (2 : Int)
  else
   ((
    if (p0 == (55 : Int)) then
     some true
    else
     some (p0 == (56 : Int))) : Option Bool).bind (fun v9_0 =>
   if v9_0 then
    some (4 : Int)
   else
    ((
     if (decide ((50 : Int) ≤ p0)) then
      some (decide (p0 ≤ (62 : Int)))
     else
      some false) : Option Bool).bind (fun v13_0 =>
    if v13_0 then
     some (3 : Int)
    else
     some (0 : Int)))))
set_option maxHeartbeats 4000000 in
theorem tree_Sort_ok {K : Nat} {p0 : Int} {r : Int} (h : tree_Sort K p0 = some r) : Cn Tryz.prog 15 [.d (.val (.int .i64 p0))] (.d (.val (.int .i64 r))) := by
 refine Cn.oz Tryz.func15 Tryz.call15 Tryz.ntmps15 Tryz.results15 fun hfit => ?_
 unfold tree_Sort at h
 refine AW.kr [] [0] ?_
 refine AW.ks [] [0] ?_
 refine AW.one ?_
 refine AW.block ?_
 refine AW.jn h (fun v1_0 => [(0, vI p0), (3, vB v1_0)]) (fun v1_0 => []) (fun oJ2 h => ?_) fun v1_0 h => ?_
 ·refine AW.rp ?_
  refine sK h (fun hb3 h => ?_) fun hb3 h => ?_
  ·exact ja [] h
  exact ja [] h
 refine AW.tt h (fun hb4 h => ?_) fun hb4 h => ?_
 ·refine AW.ro ?_
  refine AW.ret ?_
  cases h; refine nz ?_; exact .same _
 refine AW.jn h (fun v5_0 => [(0, vI p0), (10, vB v5_0)]) (fun v5_0 => []) (fun oJ6 h => ?_) fun v5_0 h => ?_
 ·refine AW.rp ?_
  refine sK h (fun hb7 h => ?_) fun hb7 h => ?_
  ·exact ja [] h
  exact ja [] h
 refine AW.tt h (fun hb8 h => ?_) fun hb8 h => ?_
 ·refine AW.ro ?_
  refine AW.ret ?_
  cases h; refine nz ?_; exact .same _
 refine AW.jn h (fun v9_0 => [(0, vI p0), (17, vB v9_0)]) (fun v9_0 => []) (fun oJ10 h => ?_) fun v9_0 h => ?_
 ·refine AW.rp ?_
  refine sK h (fun hb11 h => ?_) fun hb11 h => ?_
  ·exact ja [] h
  exact ja [] h
 refine AW.tt h (fun hb12 h => ?_) fun hb12 h => ?_
 ·refine AW.ro ?_
  refine AW.ret ?_
  cases h; refine nz ?_; exact .same _
 refine AW.jn h (fun v13_0 => [(24, vB v13_0)]) (fun v13_0 => []) (fun oJ14 h => ?_) fun v13_0 h => ?_
 ·refine AW.rp ?_
  refine sK h (fun hb15 h => ?_) fun hb15 h => ?_
  ·exact ja [] h
  exact ja [] h
 refine AW.tk h (fun hb16 h => ?_) fun hb16 h => ?_
 ·refine AW.ro ?_
  refine AW.ret ?_
  cases h; refine nz ?_; exact .same _
 refine AW.kr [] [] ?_
 refine AW.ret ?_
 cases h; refine nz ?_; exact .same _
/-! ### (*isochrone/text.printer).tree -/
def text_printer_tree_body (K : Nat) (self30 : (Text_printerA × NodeA) → Option Text_printerA) (self62 : (Text_printerA × NodeA) → Option Text_printerA) (self63 : (Text_printerA × NodeA) → Option Text_printerA) (self64 : (Text_printerA × NodeA) → Option Text_printerA) (self87 : (Text_printerA × ByteArray × NodeA × ByteArray) → Option Text_printerA) (self88 : (Text_printerA × NodeA) → Option Text_printerA) (self90 : (Text_printerA × NodeA) → Option Text_printerA) (p0 : Text_printerA) (p1 : NodeA) : Option Text_printerA := (text_signs K p1.op).bind fun r1 =>
 if (!(r1.toList == (⟨#[]⟩ : ByteArray).toList)) then
  (text_printer_put K p0 [(⟨#[40]⟩ : ByteArray)]).bind fun r4 =>
  (idx p1.kids (0 : Int)).bind fun x6 =>
  (self30 (r4, x6)).bind fun r8 =>
  (text_printer_put K r8 [r1]).bind fun r10 =>
  (idx p1.kids (1 : Int)).bind fun x12 =>
  (self30 (r10, x12)).bind fun r14 =>
  (text_printer_put K r14 [(⟨#[41]⟩ : ByteArray)]).bind fun r16 =>
  some r16
 else
  (tree_Sort K p1.op).bind fun r18 =>
  if (r18 == (1 : Int)) then
   (self62 (p0, p1)).bind fun r21 =>
   some r21
  else
   if (r18 == (2 : Int)) then
    (self63 (p0, p1)).bind fun r24 =>
    some r24
   else
    (self64 (p0, p1)).bind fun r26 =>
    some r26
set_option maxHeartbeats 4000000 in
theorem text_printer_tree_step (K : Nat) (self30 : (Text_printerA × NodeA) → Option Text_printerA) (self62 : (Text_printerA × NodeA) → Option Text_printerA) (self63 : (Text_printerA × NodeA) → Option Text_printerA) (self64 : (Text_printerA × NodeA) → Option Text_printerA) (self87 : (Text_printerA × ByteArray × NodeA × ByteArray) → Option Text_printerA) (self88 : (Text_printerA × NodeA) → Option Text_printerA) (self90 : (Text_printerA × NodeA) → Option Text_printerA) (hself30 : ∀ (q : Text_printerA × NodeA) (r : Text_printerA), self30 q = some r → Cm Tryz.prog 30 [.ptr 0 1 0 0, aggV q.2.enc] 1 ([some ⟨1, [[gV 1 1 q.1.b]]⟩] ++ [gO (fun x : Int => [D.val (.int .u8 x)]) 1 q.1.b]) (.tup []) ([some ⟨1, [[gV 1 1 r.b]]⟩] ++ [gO (fun x : Int => [D.val (.int .u8 x)]) 1 r.b])) (hself62 : ∀ (q : Text_printerA × NodeA) (r : Text_printerA), self62 q = some r → Cm Tryz.prog 62 [.ptr 0 1 0 0, aggV q.2.enc] 1 ([some ⟨1, [[gV 1 1 q.1.b]]⟩] ++ [gO (fun x : Int => [D.val (.int .u8 x)]) 1 q.1.b]) (.tup []) ([some ⟨1, [[gV 1 1 r.b]]⟩] ++ [gO (fun x : Int => [D.val (.int .u8 x)]) 1 r.b])) (hself63 : ∀ (q : Text_printerA × NodeA) (r : Text_printerA), self63 q = some r → Cm Tryz.prog 63 [.ptr 0 1 0 0, aggV q.2.enc] 1 ([some ⟨1, [[gV 1 1 q.1.b]]⟩] ++ [gO (fun x : Int => [D.val (.int .u8 x)]) 1 q.1.b]) (.tup []) ([some ⟨1, [[gV 1 1 r.b]]⟩] ++ [gO (fun x : Int => [D.val (.int .u8 x)]) 1 r.b])) (hself64 : ∀ (q : Text_printerA × NodeA) (r : Text_printerA), self64 q = some r → Cm Tryz.prog 64 [.ptr 0 1 0 0, aggV q.2.enc] 1 ([some ⟨1, [[gV 1 1 q.1.b]]⟩] ++ [gO (fun x : Int => [D.val (.int .u8 x)]) 1 q.1.b]) (.tup []) ([some ⟨1, [[gV 1 1 r.b]]⟩] ++ [gO (fun x : Int => [D.val (.int .u8 x)]) 1 r.b])) (hself87 : ∀ (q : Text_printerA × ByteArray × NodeA × ByteArray) (r : Text_printerA), self87 q = some r → Cm Tryz.prog 87 [.ptr 0 1 0 0, .d (.val (.string q.2.1)), aggV q.2.2.1.enc, .d (.val (.string q.2.2.2))] 1 ([some ⟨1, [[gV 1 1 q.1.b]]⟩] ++ [gO (fun x : Int => [D.val (.int .u8 x)]) 1 q.1.b]) (.tup []) ([some ⟨1, [[gV 1 1 r.b]]⟩] ++ [gO (fun x : Int => [D.val (.int .u8 x)]) 1 r.b])) (hself88 : ∀ (q : Text_printerA × NodeA) (r : Text_printerA), self88 q = some r → Cm Tryz.prog 88 [.ptr 0 1 0 0, aggV q.2.enc] 1 ([some ⟨1, [[gV 1 1 q.1.b]]⟩] ++ [gO (fun x : Int => [D.val (.int .u8 x)]) 1 q.1.b]) (.tup []) ([some ⟨1, [[gV 1 1 r.b]]⟩] ++ [gO (fun x : Int => [D.val (.int .u8 x)]) 1 r.b])) (hself90 : ∀ (q : Text_printerA × NodeA) (r : Text_printerA), self90 q = some r → Cm Tryz.prog 90 [.ptr 0 1 0 0, aggV q.2.enc] 1 ([some ⟨1, [[gV 1 1 q.1.b]]⟩] ++ [gO (fun x : Int => [D.val (.int .u8 x)]) 1 q.1.b]) (.tup []) ([some ⟨1, [[gV 1 1 r.b]]⟩] ++ [gO (fun x : Int => [D.val (.int .u8 x)]) 1 r.b])) (p0 : Text_printerA) (p1 : NodeA) (r : Text_printerA) (h : text_printer_tree_body K self30 self62 self63 self64 self87 self88 self90 p0 p1 = some r) : Cm Tryz.prog 30 [.ptr 0 1 0 0, aggV p1.enc] 1 ([some ⟨1, [[gV 1 1 p0.b]]⟩] ++ [gO (fun x : Int => [D.val (.int .u8 x)]) 1 p0.b]) (.tup []) ([some ⟨1, [[gV 1 1 r.b]]⟩] ++ [gO (fun x : Int => [D.val (.int .u8 x)]) 1 r.b]) := by
 refine Cm.ofA mixed Tryz.func30 rfl Tryz.call30 Tryz.ntmps30 Tryz.results30 (by simp) rfl rfl (by simp only [go_sem, reduceEqDiff, reduceAdd, reduceSub, reduceMul, reduceLeDiff, reduceLT, Nat.reduceBEq, reduceIte, List.length_cons]) (by simp only [go_sem, reduceEqDiff, reduceAdd, reduceSub, reduceMul, reduceLeDiff, reduceLT, Nat.reduceBEq, reduceIte]) (by simp only [go_sem, reduceEqDiff, reduceAdd, reduceSub, reduceMul, reduceLeDiff, reduceLT, Nat.reduceBEq, reduceIte]) (by simp only [go_sem, reduceEqDiff, reduceAdd, reduceSub, reduceMul, reduceLeDiff, reduceLT, Nat.reduceBEq, reduceIte]) datO_g datO_g fun hfit => ?_
 unfold text_printer_tree_body at h
 refine AW.kr [0, 1] [0, 1] ?_
 refine AW.ks [0, 1, 2] [0, 3] ?_
 refine AW.one ?_
 refine AW.ro ?_
 refine cm h text_signs_ok fun r1 hx2 h => ?_
 refine AW.kr [0, 1, 2] [0, 3, 4] ?_
 refine AW.ks [0, 1, 2] [0, 3, 4, 9] ?_
 refine AW.tk h (fun hb3 h => ?_) fun hb3 h => ?_
 ·refine AW.ro ?_
  apply bE h; intro r4 hx5 h
  have hc := nx (text_printer_put_ok (h := hx5))
  refine callK_grow [0] 1 hc (by simp only [go_sem, reduceEqDiff, reduceAdd, reduceSub, reduceMul, reduceLeDiff, reduceLT, Nat.reduceBEq, reduceIte] <;> rfl) (by simp) (by simp) (by simp only [go_sem, reduceEqDiff, reduceAdd, reduceSub, reduceMul, reduceLeDiff, reduceLT, Nat.reduceBEq, reduceIte]) ?_
  refine ns ?_
  refine AW.kr [0, 5, 2] [0, 3, 4] ?_
  refine bx h fun x6 h0 h1 h => ?_
  apply bE h; intro r8 hx9 h
  have hc := nx (hself30 _ _ hx9)
  refine callK_grow [0] 1 hc (by simp only [go_sem, reduceEqDiff, reduceAdd, reduceSub, reduceMul, reduceLeDiff, reduceLT, Nat.reduceBEq, reduceIte] <;> rfl) (by simp) (by simp) (by simp only [go_sem, reduceEqDiff, reduceAdd, reduceSub, reduceMul, reduceLeDiff, reduceLT, Nat.reduceBEq, reduceIte]) ?_
  refine ns ?_
  refine AW.kr [0, 8, 2] [0, 3, 4] ?_
  apply bE h; intro r10 hx11 h
  have hc := nx (text_printer_put_ok (h := hx11))
  refine callK_grow [0] 1 hc (by simp only [go_sem, reduceEqDiff, reduceAdd, reduceSub, reduceMul, reduceLeDiff, reduceLT, Nat.reduceBEq, reduceIte] <;> rfl) (by simp) (by simp) (by simp only [go_sem, reduceEqDiff, reduceAdd, reduceSub, reduceMul, reduceLeDiff, reduceLT, Nat.reduceBEq, reduceIte]) ?_
  refine ns ?_
  refine AW.kr [0, 6, 2] [0, 3] ?_
  refine bx h fun x12 h0 h1 h => ?_
  apply bE h; intro r14 hx15 h
  have hc := nx (hself30 _ _ hx15)
  refine callK_grow [0] 1 hc (by simp only [go_sem, reduceEqDiff, reduceAdd, reduceSub, reduceMul, reduceLeDiff, reduceLT, Nat.reduceBEq, reduceIte] <;> rfl) (by simp) (by simp) (by simp only [go_sem, reduceEqDiff, reduceAdd, reduceSub, reduceMul, reduceLeDiff, reduceLT, Nat.reduceBEq, reduceIte]) ?_
  refine ns ?_
  refine AW.kr [0, 8] [0] ?_
  apply bE h; intro r16 hx17 h
  have hc := nx (text_printer_put_ok (h := hx17))
  refine callK_grow [0] 1 hc (by simp only [go_sem, reduceEqDiff, reduceAdd, reduceSub, reduceMul, reduceLeDiff, reduceLT, Nat.reduceBEq, reduceIte] <;> rfl) (by simp) (by simp) (by simp only [go_sem, reduceEqDiff, reduceAdd, reduceSub, reduceMul, reduceLeDiff, reduceLT, Nat.reduceBEq, reduceIte]) ?_
  refine ns ?_
  refine AW.ret ?_
  cases h; refine nz ?_; refine EndM.mk 4 (by decide) (by simp only [go_sem, reduceEqDiff, reduceAdd, reduceSub, reduceMul, reduceLeDiff, reduceLT, Nat.reduceBEq, reduceIte]) (ns ?_); exact ⟨.same _, ⟨⟨.same _, trivial⟩, trivial⟩⟩
 refine AW.kr [0, 1, 2] [0, 3] ?_
 refine cm h tree_Sort_ok fun r18 hx19 h => ?_
 refine AW.ks [0, 1, 2] [0, 3, 34] ?_
 refine AW.block ?_
 refine AW.ro ?_
 refine AW.ks [0, 1, 2] [0, 3, 34, 38] ?_
 refine AW.tt h (fun hb20 h => ?_) fun hb20 h => ?_
 ·refine AW.rp ?_
  apply bE h; intro r21 hx22 h
  have hc := nx (hself62 _ _ hx22)
  refine callK_grow [0] 1 hc (by simp only [go_sem, reduceEqDiff, reduceAdd, reduceSub, reduceMul, reduceLeDiff, reduceLT, Nat.reduceBEq, reduceIte] <;> rfl) (by simp) (by simp) (by simp only [go_sem, reduceEqDiff, reduceAdd, reduceSub, reduceMul, reduceLeDiff, reduceLT, Nat.reduceBEq, reduceIte]) ?_
  refine ns ?_
  cases h; refine nz ?_; refine EndM.mk 5 (by decide) (by simp only [go_sem, reduceEqDiff, reduceAdd, reduceSub, reduceMul, reduceLeDiff, reduceLT, Nat.reduceBEq, reduceIte]) (ns ?_); exact ⟨.same _, ⟨⟨.same _, trivial⟩, trivial⟩⟩
 refine AW.ro ?_
 refine AW.ks [0, 1, 2] [0, 3, 43] ?_
 refine AW.tt h (fun hb23 h => ?_) fun hb23 h => ?_
 ·refine AW.rp ?_
  apply bE h; intro r24 hx25 h
  have hc := nx (hself63 _ _ hx25)
  refine callK_grow [0] 1 hc (by simp only [go_sem, reduceEqDiff, reduceAdd, reduceSub, reduceMul, reduceLeDiff, reduceLT, Nat.reduceBEq, reduceIte] <;> rfl) (by simp) (by simp) (by simp only [go_sem, reduceEqDiff, reduceAdd, reduceSub, reduceMul, reduceLeDiff, reduceLT, Nat.reduceBEq, reduceIte]) ?_
  refine ns ?_
  cases h; refine nz ?_; refine EndM.mk 5 (by decide) (by simp only [go_sem, reduceEqDiff, reduceAdd, reduceSub, reduceMul, reduceLeDiff, reduceLT, Nat.reduceBEq, reduceIte]) (ns ?_); exact ⟨.same _, ⟨⟨.same _, trivial⟩, trivial⟩⟩
 refine AW.rp ?_
 apply bE h; intro r26 hx27 h
 have hc := nx (hself64 _ _ hx27)
 refine callK_grow [0] 1 hc (by simp only [go_sem, reduceEqDiff, reduceAdd, reduceSub, reduceMul, reduceLeDiff, reduceLT, Nat.reduceBEq, reduceIte] <;> rfl) (by simp) (by simp) (by simp only [go_sem, reduceEqDiff, reduceAdd, reduceSub, reduceMul, reduceLeDiff, reduceLT, Nat.reduceBEq, reduceIte]) ?_
 refine ns ?_
 cases h; refine nz ?_; refine EndM.mk 5 (by decide) (by simp only [go_sem, reduceEqDiff, reduceAdd, reduceSub, reduceMul, reduceLeDiff, reduceLT, Nat.reduceBEq, reduceIte]) (ns ?_); exact ⟨.same _, ⟨⟨.same _, trivial⟩, trivial⟩⟩
/-! ### (*isochrone/text.printer).term -/
def text_printer_term_body (K : Nat) (self30 : (Text_printerA × NodeA) → Option Text_printerA) (self62 : (Text_printerA × NodeA) → Option Text_printerA) (self63 : (Text_printerA × NodeA) → Option Text_printerA) (self64 : (Text_printerA × NodeA) → Option Text_printerA) (self87 : (Text_printerA × ByteArray × NodeA × ByteArray) → Option Text_printerA) (self88 : (Text_printerA × NodeA) → Option Text_printerA) (self90 : (Text_printerA × NodeA) → Option Text_printerA) (p0 : Text_printerA) (p1 : NodeA) : Option Text_printerA := if (p1.op == (1 : Int)) then
  (nat_Text K p1.num.num).bind fun r2 =>
  (text_printer_put K p0 [r2.1]).bind fun r4 =>
  some r4
 else
  if (p1.op == (2 : Int)) then
   (text_printer_put K p0 [p1.name]).bind fun r7 =>
   some r7
  else
   if (p1.op == (3 : Int)) then
    (text_printer_put K p0 [p1.name, (⟨#[39]⟩ : ByteArray)]).bind fun r10 =>
    some r10
   else
    if (p1.op == (4 : Int)) then
     (idx p1.kids (0 : Int)).bind fun x13 =>
     (self87 (p0, (⟨#[40, 45]⟩ : ByteArray), x13, (⟨#[41]⟩ : ByteArray))).bind fun r15 =>
     some r15
    else
     if (p1.op == (10 : Int)) then
      (self88 (p0, p1)).bind fun r18 =>
      some r18
     else
      if (p1.op == (11 : Int)) then
       (text_printer_put K p0 [p1.name, (⟨#[123, 125]⟩ : ByteArray)]).bind fun r21 =>
       some r21
      else
       if (p1.op == (12 : Int)) then
        (idx p1.kids (0 : Int)).bind fun x24 =>
        (self87 (p0, (⟨#[40]⟩ : ByteArray), x24, (⟨#[41, 39]⟩ : ByteArray))).bind fun r26 =>
        some r26
       else
        if (p1.op == (13 : Int)) then
         (text_printer_put K p0 [(⟨#[95]⟩ : ByteArray)]).bind fun r29 =>
         some r29
        else
         some p0
set_option maxHeartbeats 4000000 in
theorem text_printer_term_step (K : Nat) (self30 : (Text_printerA × NodeA) → Option Text_printerA) (self62 : (Text_printerA × NodeA) → Option Text_printerA) (self63 : (Text_printerA × NodeA) → Option Text_printerA) (self64 : (Text_printerA × NodeA) → Option Text_printerA) (self87 : (Text_printerA × ByteArray × NodeA × ByteArray) → Option Text_printerA) (self88 : (Text_printerA × NodeA) → Option Text_printerA) (self90 : (Text_printerA × NodeA) → Option Text_printerA) (hself30 : ∀ (q : Text_printerA × NodeA) (r : Text_printerA), self30 q = some r → Cm Tryz.prog 30 [.ptr 0 1 0 0, aggV q.2.enc] 1 ([some ⟨1, [[gV 1 1 q.1.b]]⟩] ++ [gO (fun x : Int => [D.val (.int .u8 x)]) 1 q.1.b]) (.tup []) ([some ⟨1, [[gV 1 1 r.b]]⟩] ++ [gO (fun x : Int => [D.val (.int .u8 x)]) 1 r.b])) (hself62 : ∀ (q : Text_printerA × NodeA) (r : Text_printerA), self62 q = some r → Cm Tryz.prog 62 [.ptr 0 1 0 0, aggV q.2.enc] 1 ([some ⟨1, [[gV 1 1 q.1.b]]⟩] ++ [gO (fun x : Int => [D.val (.int .u8 x)]) 1 q.1.b]) (.tup []) ([some ⟨1, [[gV 1 1 r.b]]⟩] ++ [gO (fun x : Int => [D.val (.int .u8 x)]) 1 r.b])) (hself63 : ∀ (q : Text_printerA × NodeA) (r : Text_printerA), self63 q = some r → Cm Tryz.prog 63 [.ptr 0 1 0 0, aggV q.2.enc] 1 ([some ⟨1, [[gV 1 1 q.1.b]]⟩] ++ [gO (fun x : Int => [D.val (.int .u8 x)]) 1 q.1.b]) (.tup []) ([some ⟨1, [[gV 1 1 r.b]]⟩] ++ [gO (fun x : Int => [D.val (.int .u8 x)]) 1 r.b])) (hself64 : ∀ (q : Text_printerA × NodeA) (r : Text_printerA), self64 q = some r → Cm Tryz.prog 64 [.ptr 0 1 0 0, aggV q.2.enc] 1 ([some ⟨1, [[gV 1 1 q.1.b]]⟩] ++ [gO (fun x : Int => [D.val (.int .u8 x)]) 1 q.1.b]) (.tup []) ([some ⟨1, [[gV 1 1 r.b]]⟩] ++ [gO (fun x : Int => [D.val (.int .u8 x)]) 1 r.b])) (hself87 : ∀ (q : Text_printerA × ByteArray × NodeA × ByteArray) (r : Text_printerA), self87 q = some r → Cm Tryz.prog 87 [.ptr 0 1 0 0, .d (.val (.string q.2.1)), aggV q.2.2.1.enc, .d (.val (.string q.2.2.2))] 1 ([some ⟨1, [[gV 1 1 q.1.b]]⟩] ++ [gO (fun x : Int => [D.val (.int .u8 x)]) 1 q.1.b]) (.tup []) ([some ⟨1, [[gV 1 1 r.b]]⟩] ++ [gO (fun x : Int => [D.val (.int .u8 x)]) 1 r.b])) (hself88 : ∀ (q : Text_printerA × NodeA) (r : Text_printerA), self88 q = some r → Cm Tryz.prog 88 [.ptr 0 1 0 0, aggV q.2.enc] 1 ([some ⟨1, [[gV 1 1 q.1.b]]⟩] ++ [gO (fun x : Int => [D.val (.int .u8 x)]) 1 q.1.b]) (.tup []) ([some ⟨1, [[gV 1 1 r.b]]⟩] ++ [gO (fun x : Int => [D.val (.int .u8 x)]) 1 r.b])) (hself90 : ∀ (q : Text_printerA × NodeA) (r : Text_printerA), self90 q = some r → Cm Tryz.prog 90 [.ptr 0 1 0 0, aggV q.2.enc] 1 ([some ⟨1, [[gV 1 1 q.1.b]]⟩] ++ [gO (fun x : Int => [D.val (.int .u8 x)]) 1 q.1.b]) (.tup []) ([some ⟨1, [[gV 1 1 r.b]]⟩] ++ [gO (fun x : Int => [D.val (.int .u8 x)]) 1 r.b])) (p0 : Text_printerA) (p1 : NodeA) (r : Text_printerA) (h : text_printer_term_body K self30 self62 self63 self64 self87 self88 self90 p0 p1 = some r) : Cm Tryz.prog 62 [.ptr 0 1 0 0, aggV p1.enc] 1 ([some ⟨1, [[gV 1 1 p0.b]]⟩] ++ [gO (fun x : Int => [D.val (.int .u8 x)]) 1 p0.b]) (.tup []) ([some ⟨1, [[gV 1 1 r.b]]⟩] ++ [gO (fun x : Int => [D.val (.int .u8 x)]) 1 r.b]) := by
 refine Cm.ofA mixed Tryz.func62 rfl Tryz.call62 Tryz.ntmps62 Tryz.results62 (by simp) rfl rfl (by simp only [go_sem, reduceEqDiff, reduceAdd, reduceSub, reduceMul, reduceLeDiff, reduceLT, Nat.reduceBEq, reduceIte, List.length_cons]) (by simp only [go_sem, reduceEqDiff, reduceAdd, reduceSub, reduceMul, reduceLeDiff, reduceLT, Nat.reduceBEq, reduceIte]) (by simp only [go_sem, reduceEqDiff, reduceAdd, reduceSub, reduceMul, reduceLeDiff, reduceLT, Nat.reduceBEq, reduceIte]) (by simp only [go_sem, reduceEqDiff, reduceAdd, reduceSub, reduceMul, reduceLeDiff, reduceLT, Nat.reduceBEq, reduceIte]) datO_g datO_g fun hfit => ?_
 unfold text_printer_term_body at h
 refine AW.kr [0, 1] [0, 1] ?_
 refine AW.kr [0, 1, 2] [0, 3] ?_
 refine AW.ks [0, 1, 2] [0, 3, 7] ?_
 refine AW.block ?_
 refine AW.ro ?_
 refine AW.ks [0, 1, 2] [0, 3, 7, 8] ?_
 refine AW.tt h (fun hb1 h => ?_) fun hb1 h => ?_
 ·refine AW.ro ?_
  refine cm h nat_Text_ok fun r2 hx3 h => ?_
  refine AW.ks [0, 1] [0, 4] ?_
  refine AW.rp ?_
  apply bE h; intro r4 hx5 h
  have hc := nx (text_printer_put_ok (h := hx5))
  refine callK_grow [0] 1 hc (by simp only [go_sem, reduceEqDiff, reduceAdd, reduceSub, reduceMul, reduceLeDiff, reduceLT, Nat.reduceBEq, reduceIte] <;> rfl) (by simp) (by simp) (by simp only [go_sem, reduceEqDiff, reduceAdd, reduceSub, reduceMul, reduceLeDiff, reduceLT, Nat.reduceBEq, reduceIte]) ?_
  refine ns ?_
  cases h; refine nz ?_; refine EndM.mk 5 (by decide) (by simp only [go_sem, reduceEqDiff, reduceAdd, reduceSub, reduceMul, reduceLeDiff, reduceLT, Nat.reduceBEq, reduceIte]) (ns ?_); exact ⟨.same _, ⟨⟨.same _, trivial⟩, trivial⟩⟩
 refine AW.ro ?_
 refine AW.ks [0, 1, 2] [0, 3, 7, 21] ?_
 refine AW.tt h (fun hb6 h => ?_) fun hb6 h => ?_
 ·refine AW.rp ?_
  apply bE h; intro r7 hx8 h
  have hc := nx (text_printer_put_ok (h := hx8))
  refine callK_grow [0] 1 hc (by simp only [go_sem, reduceEqDiff, reduceAdd, reduceSub, reduceMul, reduceLeDiff, reduceLT, Nat.reduceBEq, reduceIte] <;> rfl) (by simp) (by simp) (by simp only [go_sem, reduceEqDiff, reduceAdd, reduceSub, reduceMul, reduceLeDiff, reduceLT, Nat.reduceBEq, reduceIte]) ?_
  refine ns ?_
  cases h; refine nz ?_; refine EndM.mk 7 (by decide) (by simp only [go_sem, reduceEqDiff, reduceAdd, reduceSub, reduceMul, reduceLeDiff, reduceLT, Nat.reduceBEq, reduceIte]) (ns ?_); exact ⟨.same _, ⟨⟨.same _, trivial⟩, trivial⟩⟩
 refine AW.ro ?_
 refine AW.ks [0, 1, 2] [0, 3, 7, 28] ?_
 refine AW.tt h (fun hb9 h => ?_) fun hb9 h => ?_
 ·refine AW.rp ?_
  apply bE h; intro r10 hx11 h
  have hc := nx (text_printer_put_ok (h := hx11))
  refine callK_grow [0] 1 hc (by simp only [go_sem, reduceEqDiff, reduceAdd, reduceSub, reduceMul, reduceLeDiff, reduceLT, Nat.reduceBEq, reduceIte] <;> rfl) (by simp) (by simp) (by simp only [go_sem, reduceEqDiff, reduceAdd, reduceSub, reduceMul, reduceLeDiff, reduceLT, Nat.reduceBEq, reduceIte]) ?_
  refine ns ?_
  cases h; refine nz ?_; refine EndM.mk 7 (by decide) (by simp only [go_sem, reduceEqDiff, reduceAdd, reduceSub, reduceMul, reduceLeDiff, reduceLT, Nat.reduceBEq, reduceIte]) (ns ?_); exact ⟨.same _, ⟨⟨.same _, trivial⟩, trivial⟩⟩
 refine AW.ro ?_
 refine AW.ks [0, 1, 2] [0, 3, 7, 35] ?_
 refine AW.tt h (fun hb12 h => ?_) fun hb12 h => ?_
 ·refine AW.rp ?_
  refine bx h fun x13 h0 h1 h => ?_
  apply bE h; intro r15 hx16 h
  have hc := nx (hself87 _ _ hx16)
  refine callK_grow [0] 1 hc (by simp only [go_sem, reduceEqDiff, reduceAdd, reduceSub, reduceMul, reduceLeDiff, reduceLT, Nat.reduceBEq, reduceIte] <;> rfl) (by simp) (by simp) (by simp only [go_sem, reduceEqDiff, reduceAdd, reduceSub, reduceMul, reduceLeDiff, reduceLT, Nat.reduceBEq, reduceIte]) ?_
  refine ns ?_
  cases h; refine nz ?_; refine EndM.mk 8 (by decide) (by simp only [go_sem, reduceEqDiff, reduceAdd, reduceSub, reduceMul, reduceLeDiff, reduceLT, Nat.reduceBEq, reduceIte]) (ns ?_); exact ⟨.same _, ⟨⟨.same _, trivial⟩, trivial⟩⟩
 refine AW.ro ?_
 refine AW.ks [0, 1, 2] [0, 3, 7, 43] ?_
 refine AW.tt h (fun hb17 h => ?_) fun hb17 h => ?_
 ·refine AW.rp ?_
  apply bE h; intro r18 hx19 h
  have hc := nx (hself88 _ _ hx19)
  refine callK_grow [0] 1 hc (by simp only [go_sem, reduceEqDiff, reduceAdd, reduceSub, reduceMul, reduceLeDiff, reduceLT, Nat.reduceBEq, reduceIte] <;> rfl) (by simp) (by simp) (by simp only [go_sem, reduceEqDiff, reduceAdd, reduceSub, reduceMul, reduceLeDiff, reduceLT, Nat.reduceBEq, reduceIte]) ?_
  refine ns ?_
  cases h; refine nz ?_; refine EndM.mk 5 (by decide) (by simp only [go_sem, reduceEqDiff, reduceAdd, reduceSub, reduceMul, reduceLeDiff, reduceLT, Nat.reduceBEq, reduceIte]) (ns ?_); exact ⟨.same _, ⟨⟨.same _, trivial⟩, trivial⟩⟩
 refine AW.ro ?_
 refine AW.ks [0, 1, 2] [0, 3, 7, 48] ?_
 refine AW.tt h (fun hb20 h => ?_) fun hb20 h => ?_
 ·refine AW.rp ?_
  apply bE h; intro r21 hx22 h
  have hc := nx (text_printer_put_ok (h := hx22))
  refine callK_grow [0] 1 hc (by simp only [go_sem, reduceEqDiff, reduceAdd, reduceSub, reduceMul, reduceLeDiff, reduceLT, Nat.reduceBEq, reduceIte] <;> rfl) (by simp) (by simp) (by simp only [go_sem, reduceEqDiff, reduceAdd, reduceSub, reduceMul, reduceLeDiff, reduceLT, Nat.reduceBEq, reduceIte]) ?_
  refine ns ?_
  cases h; refine nz ?_; refine EndM.mk 7 (by decide) (by simp only [go_sem, reduceEqDiff, reduceAdd, reduceSub, reduceMul, reduceLeDiff, reduceLT, Nat.reduceBEq, reduceIte]) (ns ?_); exact ⟨.same _, ⟨⟨.same _, trivial⟩, trivial⟩⟩
 refine AW.ro ?_
 refine AW.ks [0, 1, 2] [0, 3, 7, 55] ?_
 refine AW.tt h (fun hb23 h => ?_) fun hb23 h => ?_
 ·refine AW.rp ?_
  refine bx h fun x24 h0 h1 h => ?_
  apply bE h; intro r26 hx27 h
  have hc := nx (hself87 _ _ hx27)
  refine callK_grow [0] 1 hc (by simp only [go_sem, reduceEqDiff, reduceAdd, reduceSub, reduceMul, reduceLeDiff, reduceLT, Nat.reduceBEq, reduceIte] <;> rfl) (by simp) (by simp) (by simp only [go_sem, reduceEqDiff, reduceAdd, reduceSub, reduceMul, reduceLeDiff, reduceLT, Nat.reduceBEq, reduceIte]) ?_
  refine ns ?_
  cases h; refine nz ?_; refine EndM.mk 8 (by decide) (by simp only [go_sem, reduceEqDiff, reduceAdd, reduceSub, reduceMul, reduceLeDiff, reduceLT, Nat.reduceBEq, reduceIte]) (ns ?_); exact ⟨.same _, ⟨⟨.same _, trivial⟩, trivial⟩⟩
 refine AW.ro ?_
 refine AW.ks [0, 1] [0, 63] ?_
 refine AW.tk h (fun hb28 h => ?_) fun hb28 h => ?_
 ·refine AW.rp ?_
  apply bE h; intro r29 hx30 h
  have hc := nx (text_printer_put_ok (h := hx30))
  refine callK_grow [0] 1 hc (by simp only [go_sem, reduceEqDiff, reduceAdd, reduceSub, reduceMul, reduceLeDiff, reduceLT, Nat.reduceBEq, reduceIte] <;> rfl) (by simp) (by simp) (by simp only [go_sem, reduceEqDiff, reduceAdd, reduceSub, reduceMul, reduceLeDiff, reduceLT, Nat.reduceBEq, reduceIte]) ?_
  refine ns ?_
  cases h; refine nz ?_; refine EndM.mk 4 (by decide) (by simp only [go_sem, reduceEqDiff, reduceAdd, reduceSub, reduceMul, reduceLeDiff, reduceLT, Nat.reduceBEq, reduceIte]) (ns ?_); exact ⟨.same _, ⟨⟨.same _, trivial⟩, trivial⟩⟩
 cases h; refine nz ?_; refine EndM.mk 1 (by decide) (by simp only [go_sem, reduceEqDiff, reduceAdd, reduceSub, reduceMul, reduceLeDiff, reduceLT, Nat.reduceBEq, reduceIte]) (ns ?_); exact ⟨.same _, ⟨⟨.same _, trivial⟩, trivial⟩⟩
/-! ### (*isochrone/text.printer).formula -/
def text_printer_formula_body (K : Nat) (self30 : (Text_printerA × NodeA) → Option Text_printerA) (self62 : (Text_printerA × NodeA) → Option Text_printerA) (self63 : (Text_printerA × NodeA) → Option Text_printerA) (self64 : (Text_printerA × NodeA) → Option Text_printerA) (self87 : (Text_printerA × ByteArray × NodeA × ByteArray) → Option Text_printerA) (self88 : (Text_printerA × NodeA) → Option Text_printerA) (self90 : (Text_printerA × NodeA) → Option Text_printerA) (p0 : Text_printerA) (p1 : NodeA) : Option Text_printerA := if (p1.op == (20 : Int)) then
  (text_printer_put K p0 [(⟨#[116, 114, 117, 101]⟩ : ByteArray)]).bind fun r2 =>
  some r2
 else
  if (p1.op == (21 : Int)) then
   (text_printer_put K p0 [(⟨#[102, 97, 108, 115, 101]⟩ : ByteArray)]).bind fun r5 =>
   some r5
  else
   ((
    if (p1.op == (22 : Int)) then
     some (p1.op == (22 : Int))
    else
     if (p1.op == (23 : Int)) then
      some (p1.op == (23 : Int))
     else
      if (p1.op == (24 : Int)) then
       some (p1.op == (24 : Int))
      else
       if (p1.op == (25 : Int)) then
        some (p1.op == (25 : Int))
       else
        if (p1.op == (26 : Int)) then
         some (p1.op == (26 : Int))
        else
         some (p1.op == (27 : Int))) : Option Bool).bind (fun v7_0 =>
   if v7_0 then
    (idx p1.kids (0 : Int)).bind fun x15 =>
    (self30 (p0, x15)).bind fun r17 =>
    (text_compares K p1.op).bind fun r19 =>
    (idx p1.kids (1 : Int)).bind fun x21 =>
    (self87 (r17, r19, x21, (⟨#[]⟩ : ByteArray))).bind fun r23 =>
    some r23
   else
    if (p1.op == (28 : Int)) then
     (idx p1.kids (0 : Int)).bind fun x26 =>
     (self87 (p0, (⟨#[33]⟩ : ByteArray), x26, (⟨#[]⟩ : ByteArray))).bind fun r28 =>
     some r28
    else
     if (p1.op == (33 : Int)) then
      (catO (⟨#[102, 111, 114, 97, 108, 108, 32]⟩ : ByteArray) p1.name).bind fun s31 =>
      (catO s31 (⟨#[46, 32]⟩ : ByteArray)).bind fun s33 =>
      (idx p1.kids (0 : Int)).bind fun x35 =>
      (self87 (p0, s33, x35, (⟨#[]⟩ : ByteArray))).bind fun r37 =>
      some r37
     else
      if (p1.op == (34 : Int)) then
       (catO (⟨#[101, 120, 105, 115, 116, 115, 32]⟩ : ByteArray) p1.name).bind fun s40 =>
       (catO s40 (⟨#[46, 32]⟩ : ByteArray)).bind fun s42 =>
       (idx p1.kids (0 : Int)).bind fun x44 =>
       (self87 (p0, s42, x44, (⟨#[]⟩ : ByteArray))).bind fun r46 =>
       some r46
      else
       if (p1.op == (35 : Int)) then
        (idx p1.kids (0 : Int)).bind fun x49 =>
        (self87 (p0, (⟨#[91]⟩ : ByteArray), x49, (⟨#[93]⟩ : ByteArray))).bind fun r51 =>
        (idx p1.kids (1 : Int)).bind fun x53 =>
        (self30 (r51, x53)).bind fun r55 =>
        some r55
       else
        if (p1.op == (36 : Int)) then
         (idx p1.kids (0 : Int)).bind fun x58 =>
         (self87 (p0, (⟨#[60, 124]⟩ : ByteArray), x58, (⟨#[124, 62]⟩ : ByteArray))).bind fun r60 =>
         (idx p1.kids (1 : Int)).bind fun x62 =>
         (self30 (r60, x62)).bind fun r64 =>
         some r64
        else
         if (p1.op == (37 : Int)) then
          (self88 (p0, p1)).bind fun r67 =>
          some r67
         else
          if (p1.op == (38 : Int)) then
           (text_printer_put K p0 [p1.name, (⟨#[123, 125]⟩ : ByteArray)]).bind fun r70 =>
           some r70
          else
           if (p1.op == (39 : Int)) then
            (idx p1.kids (0 : Int)).bind fun x73 =>
            (self87 (p0, (⟨#[64, 40]⟩ : ByteArray), x73, (⟨#[41]⟩ : ByteArray))).bind fun r75 =>
            some r75
           else
            some p0)
set_option maxHeartbeats 4000000 in
theorem text_printer_formula_step (K : Nat) (self30 : (Text_printerA × NodeA) → Option Text_printerA) (self62 : (Text_printerA × NodeA) → Option Text_printerA) (self63 : (Text_printerA × NodeA) → Option Text_printerA) (self64 : (Text_printerA × NodeA) → Option Text_printerA) (self87 : (Text_printerA × ByteArray × NodeA × ByteArray) → Option Text_printerA) (self88 : (Text_printerA × NodeA) → Option Text_printerA) (self90 : (Text_printerA × NodeA) → Option Text_printerA) (hself30 : ∀ (q : Text_printerA × NodeA) (r : Text_printerA), self30 q = some r → Cm Tryz.prog 30 [.ptr 0 1 0 0, aggV q.2.enc] 1 ([some ⟨1, [[gV 1 1 q.1.b]]⟩] ++ [gO (fun x : Int => [D.val (.int .u8 x)]) 1 q.1.b]) (.tup []) ([some ⟨1, [[gV 1 1 r.b]]⟩] ++ [gO (fun x : Int => [D.val (.int .u8 x)]) 1 r.b])) (hself62 : ∀ (q : Text_printerA × NodeA) (r : Text_printerA), self62 q = some r → Cm Tryz.prog 62 [.ptr 0 1 0 0, aggV q.2.enc] 1 ([some ⟨1, [[gV 1 1 q.1.b]]⟩] ++ [gO (fun x : Int => [D.val (.int .u8 x)]) 1 q.1.b]) (.tup []) ([some ⟨1, [[gV 1 1 r.b]]⟩] ++ [gO (fun x : Int => [D.val (.int .u8 x)]) 1 r.b])) (hself63 : ∀ (q : Text_printerA × NodeA) (r : Text_printerA), self63 q = some r → Cm Tryz.prog 63 [.ptr 0 1 0 0, aggV q.2.enc] 1 ([some ⟨1, [[gV 1 1 q.1.b]]⟩] ++ [gO (fun x : Int => [D.val (.int .u8 x)]) 1 q.1.b]) (.tup []) ([some ⟨1, [[gV 1 1 r.b]]⟩] ++ [gO (fun x : Int => [D.val (.int .u8 x)]) 1 r.b])) (hself64 : ∀ (q : Text_printerA × NodeA) (r : Text_printerA), self64 q = some r → Cm Tryz.prog 64 [.ptr 0 1 0 0, aggV q.2.enc] 1 ([some ⟨1, [[gV 1 1 q.1.b]]⟩] ++ [gO (fun x : Int => [D.val (.int .u8 x)]) 1 q.1.b]) (.tup []) ([some ⟨1, [[gV 1 1 r.b]]⟩] ++ [gO (fun x : Int => [D.val (.int .u8 x)]) 1 r.b])) (hself87 : ∀ (q : Text_printerA × ByteArray × NodeA × ByteArray) (r : Text_printerA), self87 q = some r → Cm Tryz.prog 87 [.ptr 0 1 0 0, .d (.val (.string q.2.1)), aggV q.2.2.1.enc, .d (.val (.string q.2.2.2))] 1 ([some ⟨1, [[gV 1 1 q.1.b]]⟩] ++ [gO (fun x : Int => [D.val (.int .u8 x)]) 1 q.1.b]) (.tup []) ([some ⟨1, [[gV 1 1 r.b]]⟩] ++ [gO (fun x : Int => [D.val (.int .u8 x)]) 1 r.b])) (hself88 : ∀ (q : Text_printerA × NodeA) (r : Text_printerA), self88 q = some r → Cm Tryz.prog 88 [.ptr 0 1 0 0, aggV q.2.enc] 1 ([some ⟨1, [[gV 1 1 q.1.b]]⟩] ++ [gO (fun x : Int => [D.val (.int .u8 x)]) 1 q.1.b]) (.tup []) ([some ⟨1, [[gV 1 1 r.b]]⟩] ++ [gO (fun x : Int => [D.val (.int .u8 x)]) 1 r.b])) (hself90 : ∀ (q : Text_printerA × NodeA) (r : Text_printerA), self90 q = some r → Cm Tryz.prog 90 [.ptr 0 1 0 0, aggV q.2.enc] 1 ([some ⟨1, [[gV 1 1 q.1.b]]⟩] ++ [gO (fun x : Int => [D.val (.int .u8 x)]) 1 q.1.b]) (.tup []) ([some ⟨1, [[gV 1 1 r.b]]⟩] ++ [gO (fun x : Int => [D.val (.int .u8 x)]) 1 r.b])) (p0 : Text_printerA) (p1 : NodeA) (r : Text_printerA) (h : text_printer_formula_body K self30 self62 self63 self64 self87 self88 self90 p0 p1 = some r) : Cm Tryz.prog 63 [.ptr 0 1 0 0, aggV p1.enc] 1 ([some ⟨1, [[gV 1 1 p0.b]]⟩] ++ [gO (fun x : Int => [D.val (.int .u8 x)]) 1 p0.b]) (.tup []) ([some ⟨1, [[gV 1 1 r.b]]⟩] ++ [gO (fun x : Int => [D.val (.int .u8 x)]) 1 r.b]) := by
 refine Cm.ofA mixed Tryz.func63 rfl Tryz.call63 Tryz.ntmps63 Tryz.results63 (by simp) rfl rfl (by simp only [go_sem, reduceEqDiff, reduceAdd, reduceSub, reduceMul, reduceLeDiff, reduceLT, Nat.reduceBEq, reduceIte, List.length_cons]) (by simp only [go_sem, reduceEqDiff, reduceAdd, reduceSub, reduceMul, reduceLeDiff, reduceLT, Nat.reduceBEq, reduceIte]) (by simp only [go_sem, reduceEqDiff, reduceAdd, reduceSub, reduceMul, reduceLeDiff, reduceLT, Nat.reduceBEq, reduceIte]) (by simp only [go_sem, reduceEqDiff, reduceAdd, reduceSub, reduceMul, reduceLeDiff, reduceLT, Nat.reduceBEq, reduceIte]) datO_g datO_g fun hfit => ?_
 unfold text_printer_formula_body at h
 refine AW.cu [0, 1] [(0, .ptr 0 1 0 0), (1, .agg [.d (.val (.int .i64 p1.op)), .d (.val (.string p1.name)), .d (.val (.bool p1.num.neg)), .d (slD u32V p1.num.num), .d (slD u32V p1.num.den), .d (slD NodeA.enc p1.kids)])] [some ⟨1, [[gV 1 1 p0.b]]⟩, gO (fun x : Int => [D.val (.int .u8 x)]) 1 p0.b] ?_
 refine AW.op mixed ?_
 refine AW.cu [0, 1, 2] [(0, .ptr 0 1 0 0), (3, .ptr 2 6 0 0)] [some ⟨1, [[gV 1 1 p0.b]]⟩, gO (fun x : Int => [D.val (.int .u8 x)]) 1 p0.b, some ⟨6, [[.d (.val (.int .i64 p1.op)), .d (.val (.string p1.name)), .d (.val (.bool p1.num.neg)), .d (slD u32V p1.num.num), .d (slD u32V p1.num.den), .d (slD NodeA.enc p1.kids)]]⟩] ?_
 refine AW.op mixed ?_
 refine AW.cu [0, 1, 2] [(0, .ptr 0 1 0 0), (3, .ptr 2 6 0 0), (5, .d (.val (.int .i64 p1.op)))] [some ⟨1, [[gV 1 1 p0.b]]⟩, gO (fun x : Int => [D.val (.int .u8 x)]) 1 p0.b, some ⟨6, [[.d (.val (.int .i64 p1.op)), .d (.val (.string p1.name)), .d (.val (.bool p1.num.neg)), .d (slD u32V p1.num.num), .d (slD u32V p1.num.den), .d (slD NodeA.enc p1.kids)]]⟩] ?_
 refine AW.block ?_
 refine AW.op mixed ?_
 refine AW.cu [0, 1, 2] [(0, .ptr 0 1 0 0), (3, .ptr 2 6 0 0), (5, .d (.val (.int .i64 p1.op))), (6, .d (.val (.bool (p1.op == (20 : Int)))))] [some ⟨1, [[gV 1 1 p0.b]]⟩, gO (fun x : Int => [D.val (.int .u8 x)]) 1 p0.b, some ⟨6, [[.d (.val (.int .i64 p1.op)), .d (.val (.string p1.name)), .d (.val (.bool p1.num.neg)), .d (slD u32V p1.num.num), .d (slD u32V p1.num.den), .d (slD NodeA.enc p1.kids)]]⟩] ?_
 refine AW.ts (p1.op == (20 : Int)) (fun hb1 => ?_) (fun hb1 => ?_)
 ·have h := ifT hb1 h
  refine AW.rg mixed ?_
  apply obindE h; intro r2 hx3 h
  have hc := nx (text_printer_put_ok (h := hx3))
  refine callK_grow [0] 1 hc (by simp only [go_sem, reduceEqDiff, reduceAdd, reduceSub, reduceMul, reduceLeDiff, reduceLT, Nat.reduceBEq, reduceIte] <;> rfl) (by simp) (by simp) (by simp only [go_sem, reduceEqDiff, reduceAdd, reduceSub, reduceMul, reduceLeDiff, reduceLT, Nat.reduceBEq, reduceIte]) ?_
  try simp only [go_sem, reduceEqDiff, reduceAdd, reduceSub, reduceMul, reduceLeDiff, reduceLT, Nat.reduceBEq, reduceIte]
  obtain rfl := Option.some.inj h
  refine nz ?_
  refine EndM.mk 5 (by decide) (by simp only [go_sem, reduceEqDiff, reduceAdd, reduceSub, reduceMul, reduceLeDiff, reduceLT, Nat.reduceBEq, reduceIte]) (ns ?_)
  exact ⟨.same _, ⟨⟨.same _, trivial⟩, trivial⟩⟩
 have h := ifF hb1 h
 refine AW.op mixed ?_
 refine AW.cu [0, 1, 2] [(0, .ptr 0 1 0 0), (3, .ptr 2 6 0 0), (5, .d (.val (.int .i64 p1.op))), (11, .d (.val (.bool (p1.op == (21 : Int)))))] [some ⟨1, [[gV 1 1 p0.b]]⟩, gO (fun x : Int => [D.val (.int .u8 x)]) 1 p0.b, some ⟨6, [[.d (.val (.int .i64 p1.op)), .d (.val (.string p1.name)), .d (.val (.bool p1.num.neg)), .d (slD u32V p1.num.num), .d (slD u32V p1.num.den), .d (slD NodeA.enc p1.kids)]]⟩] ?_
 refine AW.ts (p1.op == (21 : Int)) (fun hb4 => ?_) (fun hb4 => ?_)
 ·have h := ifT hb4 h
  refine AW.rg mixed ?_
  apply obindE h; intro r5 hx6 h
  have hc := nx (text_printer_put_ok (h := hx6))
  refine callK_grow [0] 1 hc (by simp only [go_sem, reduceEqDiff, reduceAdd, reduceSub, reduceMul, reduceLeDiff, reduceLT, Nat.reduceBEq, reduceIte] <;> rfl) (by simp) (by simp) (by simp only [go_sem, reduceEqDiff, reduceAdd, reduceSub, reduceMul, reduceLeDiff, reduceLT, Nat.reduceBEq, reduceIte]) ?_
  try simp only [go_sem, reduceEqDiff, reduceAdd, reduceSub, reduceMul, reduceLeDiff, reduceLT, Nat.reduceBEq, reduceIte]
  obtain rfl := Option.some.inj h
  refine nz ?_
  refine EndM.mk 5 (by decide) (by simp only [go_sem, reduceEqDiff, reduceAdd, reduceSub, reduceMul, reduceLeDiff, reduceLT, Nat.reduceBEq, reduceIte]) (ns ?_)
  exact ⟨.same _, ⟨⟨.same _, trivial⟩, trivial⟩⟩
 have h := ifF hb4 h
 refine AW.one ?_
 refine obindE h fun oJ8 h hJ8 => ?_
 refine AW.join (S := Bool) (fun v7_0 => [(0, .ptr 0 1 0 0), (3, .ptr 1 6 0 0), (5, .d (.val (.int .i64 p1.op))), (16, .d (.val (.bool v7_0)))]) (fun v7_0 => [some ⟨1, [[gV 2 1 p0.b]]⟩, some ⟨6, [[.d (.val (.int .i64 p1.op)), .d (.val (.string p1.name)), .d (.val (.bool p1.num.neg)), .d (slD u32V p1.num.num), .d (slD u32V p1.num.den), .d (slD NodeA.enc p1.kids)]]⟩, gO (fun x : Int => [D.val (.int .u8 x)]) 1 p0.b]) (fun x => x = oJ8) ?_ ?_
 ·skip
  refine AW.op mixed ?_
  refine AW.cu [0, 1, 2] [(0, .ptr 0 1 0 0), (3, .ptr 2 6 0 0), (5, .d (.val (.int .i64 p1.op))), (16, .d (.val (.bool (p1.op == (22 : Int)))))] [some ⟨1, [[gV 1 1 p0.b]]⟩, gO (fun x : Int => [D.val (.int .u8 x)]) 1 p0.b, some ⟨6, [[.d (.val (.int .i64 p1.op)), .d (.val (.string p1.name)), .d (.val (.bool p1.num.neg)), .d (slD u32V p1.num.num), .d (slD u32V p1.num.den), .d (slD NodeA.enc p1.kids)]]⟩] ?_
  refine AW.ts (p1.op == (22 : Int)) (fun hb9 => ?_) (fun hb9 => ?_)
  ·have h := ifT hb9 h
   refine AW.sk ?_
   exact JoinQ.ar (p1.op == (22 : Int)) [0, 2, 1] (Option.some.inj h)
  have h := ifF hb9 h
  refine AW.op mixed ?_
  refine AW.cu [0, 1, 2] [(0, .ptr 0 1 0 0), (3, .ptr 2 6 0 0), (5, .d (.val (.int .i64 p1.op))), (16, .d (.val (.bool (p1.op == (23 : Int)))))] [some ⟨1, [[gV 1 1 p0.b]]⟩, gO (fun x : Int => [D.val (.int .u8 x)]) 1 p0.b, some ⟨6, [[.d (.val (.int .i64 p1.op)), .d (.val (.string p1.name)), .d (.val (.bool p1.num.neg)), .d (slD u32V p1.num.num), .d (slD u32V p1.num.den), .d (slD NodeA.enc p1.kids)]]⟩] ?_
  refine AW.ts (p1.op == (23 : Int)) (fun hb10 => ?_) (fun hb10 => ?_)
  ·have h := ifT hb10 h
   refine AW.sk ?_
   exact JoinQ.ar (p1.op == (23 : Int)) [0, 2, 1] (Option.some.inj h)
  have h := ifF hb10 h
  refine AW.op mixed ?_
  refine AW.cu [0, 1, 2] [(0, .ptr 0 1 0 0), (3, .ptr 2 6 0 0), (5, .d (.val (.int .i64 p1.op))), (16, .d (.val (.bool (p1.op == (24 : Int)))))] [some ⟨1, [[gV 1 1 p0.b]]⟩, gO (fun x : Int => [D.val (.int .u8 x)]) 1 p0.b, some ⟨6, [[.d (.val (.int .i64 p1.op)), .d (.val (.string p1.name)), .d (.val (.bool p1.num.neg)), .d (slD u32V p1.num.num), .d (slD u32V p1.num.den), .d (slD NodeA.enc p1.kids)]]⟩] ?_
  refine AW.ts (p1.op == (24 : Int)) (fun hb11 => ?_) (fun hb11 => ?_)
  ·have h := ifT hb11 h
   refine AW.sk ?_
   exact JoinQ.ar (p1.op == (24 : Int)) [0, 2, 1] (Option.some.inj h)
  have h := ifF hb11 h
  refine AW.op mixed ?_
  refine AW.cu [0, 1, 2] [(0, .ptr 0 1 0 0), (3, .ptr 2 6 0 0), (5, .d (.val (.int .i64 p1.op))), (16, .d (.val (.bool (p1.op == (25 : Int)))))] [some ⟨1, [[gV 1 1 p0.b]]⟩, gO (fun x : Int => [D.val (.int .u8 x)]) 1 p0.b, some ⟨6, [[.d (.val (.int .i64 p1.op)), .d (.val (.string p1.name)), .d (.val (.bool p1.num.neg)), .d (slD u32V p1.num.num), .d (slD u32V p1.num.den), .d (slD NodeA.enc p1.kids)]]⟩] ?_
  refine AW.ts (p1.op == (25 : Int)) (fun hb12 => ?_) (fun hb12 => ?_)
  ·have h := ifT hb12 h
   refine AW.sk ?_
   exact JoinQ.ar (p1.op == (25 : Int)) [0, 2, 1] (Option.some.inj h)
  have h := ifF hb12 h
  refine AW.op mixed ?_
  refine AW.cu [0, 1, 2] [(0, .ptr 0 1 0 0), (3, .ptr 2 6 0 0), (5, .d (.val (.int .i64 p1.op))), (16, .d (.val (.bool (p1.op == (26 : Int)))))] [some ⟨1, [[gV 1 1 p0.b]]⟩, gO (fun x : Int => [D.val (.int .u8 x)]) 1 p0.b, some ⟨6, [[.d (.val (.int .i64 p1.op)), .d (.val (.string p1.name)), .d (.val (.bool p1.num.neg)), .d (slD u32V p1.num.num), .d (slD u32V p1.num.den), .d (slD NodeA.enc p1.kids)]]⟩] ?_
  refine AW.ts (p1.op == (26 : Int)) (fun hb13 => ?_) (fun hb13 => ?_)
  ·have h := ifT hb13 h
   refine AW.sk ?_
   exact JoinQ.ar (p1.op == (26 : Int)) [0, 2, 1] (Option.some.inj h)
  have h := ifF hb13 h
  refine AW.rg mixed ?_
  exact JoinQ.ar (p1.op == (27 : Int)) [0, 2, 1] (Option.some.inj h)
 rintro v7_0 rfl
 have h := hJ8
 try dsimp only [Out.fin] at h
 refine nz ?_
 refine AW.ts v7_0 (fun hb14 => ?_) (fun hb14 => ?_)
 ·have h := ifT hb14 h
  refine AW.one ?_
  refine AW.reg mixed (by kernel_rfl) ?_
  apply obindE h; intro x15 hx16 h
  try simp only [go_sem, reduceEqDiff, reduceAdd, reduceSub, reduceMul, reduceLeDiff, reduceLT, Nat.reduceBEq, reduceIte, (idx_some hx16).1, (idx_some hx16).2]
  apply obindE h; intro r17 hx18 h
  have hc := nx (hself30 _ _ hx18)
  refine callK_grow [0] 2 hc (by simp only [go_sem, reduceEqDiff, reduceAdd, reduceSub, reduceMul, reduceLeDiff, reduceLT, Nat.reduceBEq, reduceIte] <;> rfl) (by simp) (by simp) (by simp only [go_sem, reduceEqDiff, reduceAdd, reduceSub, reduceMul, reduceLeDiff, reduceLT, Nat.reduceBEq, reduceIte, (idx_some hx16).1, (idx_some hx16).2]) ?_
  try simp only [go_sem, reduceEqDiff, reduceAdd, reduceSub, reduceMul, reduceLeDiff, reduceLT, Nat.reduceBEq, reduceIte, (idx_some hx16).1, (idx_some hx16).2]
  refine AW.cut [0, 8, 1] [(0, .ptr 0 1 0 0), (3, .ptr 2 6 0 0)] [some ⟨1, [[gV 1 1 r17.b]]⟩, gO (fun x : Int => [D.val (.int .u8 x)]) 1 r17.b, some ⟨6, [[.d (.val (.int .i64 p1.op)), .d (.val (.string p1.name)), .d (.val (.bool p1.num.neg)), .d (slD u32V p1.num.num), .d (slD u32V p1.num.den), .d (slD NodeA.enc p1.kids)]]⟩] (by simp only [go_sem, reduceEqDiff, reduceAdd, reduceSub, reduceMul, reduceLeDiff, reduceLT, Nat.reduceBEq, reduceIte, (idx_some hx16).1, (idx_some hx16).2]) ?_
  refine AW.reg3 mixed (by kernel_rfl) ?_
  try simp only [go_sem, reduceEqDiff, reduceAdd, reduceSub, reduceMul, reduceLeDiff, reduceLT, Nat.reduceBEq, reduceIte]
  apply obindE h; intro r19 hx20 h
  have hc := nx (text_compares_ok (h := hx20))
  refine pcallK_intro hc (by simp only [go_sem, reduceEqDiff, reduceAdd, reduceSub, reduceMul, reduceLeDiff, reduceLT, Nat.reduceBEq, reduceIte]) ?_
  apply obindE h; intro x21 hx22 h
  try simp only [go_sem, reduceEqDiff, reduceAdd, reduceSub, reduceMul, reduceLeDiff, reduceLT, Nat.reduceBEq, reduceIte, (idx_some hx22).1, (idx_some hx22).2]
  apply obindE h; intro r23 hx24 h
  have hc := nx (hself87 _ _ hx24)
  refine callK_grow [0] 1 hc (by simp only [go_sem, reduceEqDiff, reduceAdd, reduceSub, reduceMul, reduceLeDiff, reduceLT, Nat.reduceBEq, reduceIte] <;> rfl) (by simp) (by simp) (by simp only [go_sem, reduceEqDiff, reduceAdd, reduceSub, reduceMul, reduceLeDiff, reduceLT, Nat.reduceBEq, reduceIte, (idx_some hx22).1, (idx_some hx22).2]) ?_
  try simp only [go_sem, reduceEqDiff, reduceAdd, reduceSub, reduceMul, reduceLeDiff, reduceLT, Nat.reduceBEq, reduceIte, (idx_some hx22).1, (idx_some hx22).2]
  obtain rfl := Option.some.inj h
  refine nz ?_
  refine EndM.mk 11 (by decide) (by simp only [go_sem, reduceEqDiff, reduceAdd, reduceSub, reduceMul, reduceLeDiff, reduceLT, Nat.reduceBEq, reduceIte]) (ns ?_)
  exact ⟨.same _, ⟨⟨.same _, trivial⟩, trivial⟩⟩
 have h := ifF hb14 h
 refine AW.op mixed ?_
 refine AW.cu [0, 2, 1] [(0, .ptr 0 1 0 0), (3, .ptr 2 6 0 0), (5, .d (.val (.int .i64 p1.op))), (38, .d (.val (.bool (p1.op == (28 : Int)))))] [some ⟨1, [[gV 1 1 p0.b]]⟩, gO (fun x : Int => [D.val (.int .u8 x)]) 1 p0.b, some ⟨6, [[.d (.val (.int .i64 p1.op)), .d (.val (.string p1.name)), .d (.val (.bool p1.num.neg)), .d (slD u32V p1.num.num), .d (slD u32V p1.num.den), .d (slD NodeA.enc p1.kids)]]⟩] ?_
 refine AW.ts (p1.op == (28 : Int)) (fun hb25 => ?_) (fun hb25 => ?_)
 ·have h := ifT hb25 h
  refine AW.reg mixed (by kernel_rfl) ?_
  apply obindE h; intro x26 hx27 h
  try simp only [go_sem, reduceEqDiff, reduceAdd, reduceSub, reduceMul, reduceLeDiff, reduceLT, Nat.reduceBEq, reduceIte, (idx_some hx27).1, (idx_some hx27).2]
  apply obindE h; intro r28 hx29 h
  have hc := nx (hself87 _ _ hx29)
  refine callK_grow [0] 1 hc (by simp only [go_sem, reduceEqDiff, reduceAdd, reduceSub, reduceMul, reduceLeDiff, reduceLT, Nat.reduceBEq, reduceIte] <;> rfl) (by simp) (by simp) (by simp only [go_sem, reduceEqDiff, reduceAdd, reduceSub, reduceMul, reduceLeDiff, reduceLT, Nat.reduceBEq, reduceIte, (idx_some hx27).1, (idx_some hx27).2]) ?_
  try simp only [go_sem, reduceEqDiff, reduceAdd, reduceSub, reduceMul, reduceLeDiff, reduceLT, Nat.reduceBEq, reduceIte, (idx_some hx27).1, (idx_some hx27).2]
  obtain rfl := Option.some.inj h
  refine nz ?_
  refine EndM.mk 8 (by decide) (by simp only [go_sem, reduceEqDiff, reduceAdd, reduceSub, reduceMul, reduceLeDiff, reduceLT, Nat.reduceBEq, reduceIte]) (ns ?_)
  exact ⟨.same _, ⟨⟨.same _, trivial⟩, trivial⟩⟩
 have h := ifF hb25 h
 refine AW.op mixed ?_
 refine AW.cu [0, 1, 2] [(0, .ptr 0 1 0 0), (3, .ptr 2 6 0 0), (5, .d (.val (.int .i64 p1.op))), (46, .d (.val (.bool (p1.op == (33 : Int)))))] [some ⟨1, [[gV 1 1 p0.b]]⟩, gO (fun x : Int => [D.val (.int .u8 x)]) 1 p0.b, some ⟨6, [[.d (.val (.int .i64 p1.op)), .d (.val (.string p1.name)), .d (.val (.bool p1.num.neg)), .d (slD u32V p1.num.num), .d (slD u32V p1.num.den), .d (slD NodeA.enc p1.kids)]]⟩] ?_
 refine AW.ts (p1.op == (33 : Int)) (fun hb30 => ?_) (fun hb30 => ?_)
 ·have h := ifT hb30 h
  refine AW.reg3 mixed (by kernel_rfl) ?_
  try simp only [go_sem, reduceEqDiff, reduceAdd, reduceSub, reduceMul, reduceLeDiff, reduceLT, Nat.reduceBEq, reduceIte]
  apply obindE h; intro s31 hx32 h
  try simp only [go_sem, reduceEqDiff, reduceAdd, reduceSub, reduceMul, reduceLeDiff, reduceLT, Nat.reduceBEq, reduceIte, bop_cat (P := Tryz.prog) hx32]
  apply obindE h; intro s33 hx34 h
  apply obindE h; intro x35 hx36 h
  try simp only [go_sem, reduceEqDiff, reduceAdd, reduceSub, reduceMul, reduceLeDiff, reduceLT, Nat.reduceBEq, reduceIte, bop_cat (P := Tryz.prog) hx32, bop_cat (P := Tryz.prog) hx34, (idx_some hx36).1, (idx_some hx36).2]
  apply obindE h; intro r37 hx38 h
  have hc := nx (hself87 _ _ hx38)
  refine callK_grow [0] 1 hc (by simp only [go_sem, reduceEqDiff, reduceAdd, reduceSub, reduceMul, reduceLeDiff, reduceLT, Nat.reduceBEq, reduceIte] <;> rfl) (by simp) (by simp) (by simp only [go_sem, reduceEqDiff, reduceAdd, reduceSub, reduceMul, reduceLeDiff, reduceLT, Nat.reduceBEq, reduceIte, bop_cat (P := Tryz.prog) hx32, bop_cat (P := Tryz.prog) hx34, (idx_some hx36).1, (idx_some hx36).2]) ?_
  try simp only [go_sem, reduceEqDiff, reduceAdd, reduceSub, reduceMul, reduceLeDiff, reduceLT, Nat.reduceBEq, reduceIte, bop_cat (P := Tryz.prog) hx32, bop_cat (P := Tryz.prog) hx34, (idx_some hx36).1, (idx_some hx36).2]
  obtain rfl := Option.some.inj h
  refine nz ?_
  refine EndM.mk 12 (by decide) (by simp only [go_sem, reduceEqDiff, reduceAdd, reduceSub, reduceMul, reduceLeDiff, reduceLT, Nat.reduceBEq, reduceIte]) (ns ?_)
  exact ⟨.same _, ⟨⟨.same _, trivial⟩, trivial⟩⟩
 have h := ifF hb30 h
 refine AW.op mixed ?_
 refine AW.cu [0, 1, 2] [(0, .ptr 0 1 0 0), (3, .ptr 2 6 0 0), (5, .d (.val (.int .i64 p1.op))), (58, .d (.val (.bool (p1.op == (34 : Int)))))] [some ⟨1, [[gV 1 1 p0.b]]⟩, gO (fun x : Int => [D.val (.int .u8 x)]) 1 p0.b, some ⟨6, [[.d (.val (.int .i64 p1.op)), .d (.val (.string p1.name)), .d (.val (.bool p1.num.neg)), .d (slD u32V p1.num.num), .d (slD u32V p1.num.den), .d (slD NodeA.enc p1.kids)]]⟩] ?_
 refine AW.ts (p1.op == (34 : Int)) (fun hb39 => ?_) (fun hb39 => ?_)
 ·have h := ifT hb39 h
  refine AW.reg3 mixed (by kernel_rfl) ?_
  try simp only [go_sem, reduceEqDiff, reduceAdd, reduceSub, reduceMul, reduceLeDiff, reduceLT, Nat.reduceBEq, reduceIte]
  apply obindE h; intro s40 hx41 h
  try simp only [go_sem, reduceEqDiff, reduceAdd, reduceSub, reduceMul, reduceLeDiff, reduceLT, Nat.reduceBEq, reduceIte, bop_cat (P := Tryz.prog) hx41]
  apply obindE h; intro s42 hx43 h
  apply obindE h; intro x44 hx45 h
  try simp only [go_sem, reduceEqDiff, reduceAdd, reduceSub, reduceMul, reduceLeDiff, reduceLT, Nat.reduceBEq, reduceIte, bop_cat (P := Tryz.prog) hx41, bop_cat (P := Tryz.prog) hx43, (idx_some hx45).1, (idx_some hx45).2]
  apply obindE h; intro r46 hx47 h
  have hc := nx (hself87 _ _ hx47)
  refine callK_grow [0] 1 hc (by simp only [go_sem, reduceEqDiff, reduceAdd, reduceSub, reduceMul, reduceLeDiff, reduceLT, Nat.reduceBEq, reduceIte] <;> rfl) (by simp) (by simp) (by simp only [go_sem, reduceEqDiff, reduceAdd, reduceSub, reduceMul, reduceLeDiff, reduceLT, Nat.reduceBEq, reduceIte, bop_cat (P := Tryz.prog) hx41, bop_cat (P := Tryz.prog) hx43, (idx_some hx45).1, (idx_some hx45).2]) ?_
  try simp only [go_sem, reduceEqDiff, reduceAdd, reduceSub, reduceMul, reduceLeDiff, reduceLT, Nat.reduceBEq, reduceIte, bop_cat (P := Tryz.prog) hx41, bop_cat (P := Tryz.prog) hx43, (idx_some hx45).1, (idx_some hx45).2]
  obtain rfl := Option.some.inj h
  refine nz ?_
  refine EndM.mk 12 (by decide) (by simp only [go_sem, reduceEqDiff, reduceAdd, reduceSub, reduceMul, reduceLeDiff, reduceLT, Nat.reduceBEq, reduceIte]) (ns ?_)
  exact ⟨.same _, ⟨⟨.same _, trivial⟩, trivial⟩⟩
 have h := ifF hb39 h
 refine AW.op mixed ?_
 refine AW.cu [0, 1, 2] [(0, .ptr 0 1 0 0), (3, .ptr 2 6 0 0), (5, .d (.val (.int .i64 p1.op))), (70, .d (.val (.bool (p1.op == (35 : Int)))))] [some ⟨1, [[gV 1 1 p0.b]]⟩, gO (fun x : Int => [D.val (.int .u8 x)]) 1 p0.b, some ⟨6, [[.d (.val (.int .i64 p1.op)), .d (.val (.string p1.name)), .d (.val (.bool p1.num.neg)), .d (slD u32V p1.num.num), .d (slD u32V p1.num.den), .d (slD NodeA.enc p1.kids)]]⟩] ?_
 refine AW.ts (p1.op == (35 : Int)) (fun hb48 => ?_) (fun hb48 => ?_)
 ·have h := ifT hb48 h
  refine AW.one ?_
  refine AW.reg mixed (by kernel_rfl) ?_
  apply obindE h; intro x49 hx50 h
  try simp only [go_sem, reduceEqDiff, reduceAdd, reduceSub, reduceMul, reduceLeDiff, reduceLT, Nat.reduceBEq, reduceIte, (idx_some hx50).1, (idx_some hx50).2]
  apply obindE h; intro r51 hx52 h
  have hc := nx (hself87 _ _ hx52)
  refine callK_grow [0] 1 hc (by simp only [go_sem, reduceEqDiff, reduceAdd, reduceSub, reduceMul, reduceLeDiff, reduceLT, Nat.reduceBEq, reduceIte] <;> rfl) (by simp) (by simp) (by simp only [go_sem, reduceEqDiff, reduceAdd, reduceSub, reduceMul, reduceLeDiff, reduceLT, Nat.reduceBEq, reduceIte, (idx_some hx50).1, (idx_some hx50).2]) ?_
  try simp only [go_sem, reduceEqDiff, reduceAdd, reduceSub, reduceMul, reduceLeDiff, reduceLT, Nat.reduceBEq, reduceIte, (idx_some hx50).1, (idx_some hx50).2]
  refine AW.cut [0, 8, 2] [(0, .ptr 0 1 0 0), (3, .ptr 2 6 0 0)] [some ⟨1, [[gV 1 1 r51.b]]⟩, gO (fun x : Int => [D.val (.int .u8 x)]) 1 r51.b, some ⟨6, [[.d (.val (.int .i64 p1.op)), .d (.val (.string p1.name)), .d (.val (.bool p1.num.neg)), .d (slD u32V p1.num.num), .d (slD u32V p1.num.den), .d (slD NodeA.enc p1.kids)]]⟩] (by simp only [go_sem, reduceEqDiff, reduceAdd, reduceSub, reduceMul, reduceLeDiff, reduceLT, Nat.reduceBEq, reduceIte, (idx_some hx50).1, (idx_some hx50).2]) ?_
  refine AW.reg mixed (by kernel_rfl) ?_
  apply obindE h; intro x53 hx54 h
  try simp only [go_sem, reduceEqDiff, reduceAdd, reduceSub, reduceMul, reduceLeDiff, reduceLT, Nat.reduceBEq, reduceIte, (idx_some hx54).1, (idx_some hx54).2]
  apply obindE h; intro r55 hx56 h
  have hc := nx (hself30 _ _ hx56)
  refine callK_grow [0] 1 hc (by simp only [go_sem, reduceEqDiff, reduceAdd, reduceSub, reduceMul, reduceLeDiff, reduceLT, Nat.reduceBEq, reduceIte] <;> rfl) (by simp) (by simp) (by simp only [go_sem, reduceEqDiff, reduceAdd, reduceSub, reduceMul, reduceLeDiff, reduceLT, Nat.reduceBEq, reduceIte, (idx_some hx54).1, (idx_some hx54).2]) ?_
  try simp only [go_sem, reduceEqDiff, reduceAdd, reduceSub, reduceMul, reduceLeDiff, reduceLT, Nat.reduceBEq, reduceIte, (idx_some hx54).1, (idx_some hx54).2]
  obtain rfl := Option.some.inj h
  refine nz ?_
  refine EndM.mk 8 (by decide) (by simp only [go_sem, reduceEqDiff, reduceAdd, reduceSub, reduceMul, reduceLeDiff, reduceLT, Nat.reduceBEq, reduceIte]) (ns ?_)
  exact ⟨.same _, ⟨⟨.same _, trivial⟩, trivial⟩⟩
 have h := ifF hb48 h
 refine AW.op mixed ?_
 refine AW.cu [0, 1, 2] [(0, .ptr 0 1 0 0), (3, .ptr 2 6 0 0), (5, .d (.val (.int .i64 p1.op))), (84, .d (.val (.bool (p1.op == (36 : Int)))))] [some ⟨1, [[gV 1 1 p0.b]]⟩, gO (fun x : Int => [D.val (.int .u8 x)]) 1 p0.b, some ⟨6, [[.d (.val (.int .i64 p1.op)), .d (.val (.string p1.name)), .d (.val (.bool p1.num.neg)), .d (slD u32V p1.num.num), .d (slD u32V p1.num.den), .d (slD NodeA.enc p1.kids)]]⟩] ?_
 refine AW.ts (p1.op == (36 : Int)) (fun hb57 => ?_) (fun hb57 => ?_)
 ·have h := ifT hb57 h
  refine AW.one ?_
  refine AW.reg mixed (by kernel_rfl) ?_
  apply obindE h; intro x58 hx59 h
  try simp only [go_sem, reduceEqDiff, reduceAdd, reduceSub, reduceMul, reduceLeDiff, reduceLT, Nat.reduceBEq, reduceIte, (idx_some hx59).1, (idx_some hx59).2]
  apply obindE h; intro r60 hx61 h
  have hc := nx (hself87 _ _ hx61)
  refine callK_grow [0] 1 hc (by simp only [go_sem, reduceEqDiff, reduceAdd, reduceSub, reduceMul, reduceLeDiff, reduceLT, Nat.reduceBEq, reduceIte] <;> rfl) (by simp) (by simp) (by simp only [go_sem, reduceEqDiff, reduceAdd, reduceSub, reduceMul, reduceLeDiff, reduceLT, Nat.reduceBEq, reduceIte, (idx_some hx59).1, (idx_some hx59).2]) ?_
  try simp only [go_sem, reduceEqDiff, reduceAdd, reduceSub, reduceMul, reduceLeDiff, reduceLT, Nat.reduceBEq, reduceIte, (idx_some hx59).1, (idx_some hx59).2]
  refine AW.cut [0, 8, 2] [(0, .ptr 0 1 0 0), (3, .ptr 2 6 0 0)] [some ⟨1, [[gV 1 1 r60.b]]⟩, gO (fun x : Int => [D.val (.int .u8 x)]) 1 r60.b, some ⟨6, [[.d (.val (.int .i64 p1.op)), .d (.val (.string p1.name)), .d (.val (.bool p1.num.neg)), .d (slD u32V p1.num.num), .d (slD u32V p1.num.den), .d (slD NodeA.enc p1.kids)]]⟩] (by simp only [go_sem, reduceEqDiff, reduceAdd, reduceSub, reduceMul, reduceLeDiff, reduceLT, Nat.reduceBEq, reduceIte, (idx_some hx59).1, (idx_some hx59).2]) ?_
  refine AW.reg mixed (by kernel_rfl) ?_
  apply obindE h; intro x62 hx63 h
  try simp only [go_sem, reduceEqDiff, reduceAdd, reduceSub, reduceMul, reduceLeDiff, reduceLT, Nat.reduceBEq, reduceIte, (idx_some hx63).1, (idx_some hx63).2]
  apply obindE h; intro r64 hx65 h
  have hc := nx (hself30 _ _ hx65)
  refine callK_grow [0] 1 hc (by simp only [go_sem, reduceEqDiff, reduceAdd, reduceSub, reduceMul, reduceLeDiff, reduceLT, Nat.reduceBEq, reduceIte] <;> rfl) (by simp) (by simp) (by simp only [go_sem, reduceEqDiff, reduceAdd, reduceSub, reduceMul, reduceLeDiff, reduceLT, Nat.reduceBEq, reduceIte, (idx_some hx63).1, (idx_some hx63).2]) ?_
  try simp only [go_sem, reduceEqDiff, reduceAdd, reduceSub, reduceMul, reduceLeDiff, reduceLT, Nat.reduceBEq, reduceIte, (idx_some hx63).1, (idx_some hx63).2]
  obtain rfl := Option.some.inj h
  refine nz ?_
  refine EndM.mk 8 (by decide) (by simp only [go_sem, reduceEqDiff, reduceAdd, reduceSub, reduceMul, reduceLeDiff, reduceLT, Nat.reduceBEq, reduceIte]) (ns ?_)
  exact ⟨.same _, ⟨⟨.same _, trivial⟩, trivial⟩⟩
 have h := ifF hb57 h
 refine AW.op mixed ?_
 refine AW.cu [0, 1, 2] [(0, .ptr 0 1 0 0), (3, .ptr 2 6 0 0), (5, .d (.val (.int .i64 p1.op))), (98, .d (.val (.bool (p1.op == (37 : Int)))))] [some ⟨1, [[gV 1 1 p0.b]]⟩, gO (fun x : Int => [D.val (.int .u8 x)]) 1 p0.b, some ⟨6, [[.d (.val (.int .i64 p1.op)), .d (.val (.string p1.name)), .d (.val (.bool p1.num.neg)), .d (slD u32V p1.num.num), .d (slD u32V p1.num.den), .d (slD NodeA.enc p1.kids)]]⟩] ?_
 refine AW.ts (p1.op == (37 : Int)) (fun hb66 => ?_) (fun hb66 => ?_)
 ·have h := ifT hb66 h
  refine AW.rg mixed ?_
  apply obindE h; intro r67 hx68 h
  have hc := nx (hself88 _ _ hx68)
  refine callK_grow [0] 1 hc (by simp only [go_sem, reduceEqDiff, reduceAdd, reduceSub, reduceMul, reduceLeDiff, reduceLT, Nat.reduceBEq, reduceIte] <;> rfl) (by simp) (by simp) (by simp only [go_sem, reduceEqDiff, reduceAdd, reduceSub, reduceMul, reduceLeDiff, reduceLT, Nat.reduceBEq, reduceIte]) ?_
  try simp only [go_sem, reduceEqDiff, reduceAdd, reduceSub, reduceMul, reduceLeDiff, reduceLT, Nat.reduceBEq, reduceIte]
  obtain rfl := Option.some.inj h
  refine nz ?_
  refine EndM.mk 5 (by decide) (by simp only [go_sem, reduceEqDiff, reduceAdd, reduceSub, reduceMul, reduceLeDiff, reduceLT, Nat.reduceBEq, reduceIte]) (ns ?_)
  exact ⟨.same _, ⟨⟨.same _, trivial⟩, trivial⟩⟩
 have h := ifF hb66 h
 refine AW.op mixed ?_
 refine AW.cu [0, 1, 2] [(0, .ptr 0 1 0 0), (3, .ptr 2 6 0 0), (5, .d (.val (.int .i64 p1.op))), (103, .d (.val (.bool (p1.op == (38 : Int)))))] [some ⟨1, [[gV 1 1 p0.b]]⟩, gO (fun x : Int => [D.val (.int .u8 x)]) 1 p0.b, some ⟨6, [[.d (.val (.int .i64 p1.op)), .d (.val (.string p1.name)), .d (.val (.bool p1.num.neg)), .d (slD u32V p1.num.num), .d (slD u32V p1.num.den), .d (slD NodeA.enc p1.kids)]]⟩] ?_
 refine AW.ts (p1.op == (38 : Int)) (fun hb69 => ?_) (fun hb69 => ?_)
 ·have h := ifT hb69 h
  refine AW.rg mixed ?_
  apply obindE h; intro r70 hx71 h
  have hc := nx (text_printer_put_ok (h := hx71))
  refine callK_grow [0] 1 hc (by simp only [go_sem, reduceEqDiff, reduceAdd, reduceSub, reduceMul, reduceLeDiff, reduceLT, Nat.reduceBEq, reduceIte] <;> rfl) (by simp) (by simp) (by simp only [go_sem, reduceEqDiff, reduceAdd, reduceSub, reduceMul, reduceLeDiff, reduceLT, Nat.reduceBEq, reduceIte]) ?_
  try simp only [go_sem, reduceEqDiff, reduceAdd, reduceSub, reduceMul, reduceLeDiff, reduceLT, Nat.reduceBEq, reduceIte]
  obtain rfl := Option.some.inj h
  refine nz ?_
  refine EndM.mk 7 (by decide) (by simp only [go_sem, reduceEqDiff, reduceAdd, reduceSub, reduceMul, reduceLeDiff, reduceLT, Nat.reduceBEq, reduceIte]) (ns ?_)
  exact ⟨.same _, ⟨⟨.same _, trivial⟩, trivial⟩⟩
 have h := ifF hb69 h
 refine AW.op mixed ?_
 refine AW.cu [0, 1, 2] [(0, .ptr 0 1 0 0), (3, .ptr 2 6 0 0), (110, .d (.val (.bool (p1.op == (39 : Int)))))] [some ⟨1, [[gV 1 1 p0.b]]⟩, gO (fun x : Int => [D.val (.int .u8 x)]) 1 p0.b, some ⟨6, [[.d (.val (.int .i64 p1.op)), .d (.val (.string p1.name)), .d (.val (.bool p1.num.neg)), .d (slD u32V p1.num.num), .d (slD u32V p1.num.den), .d (slD NodeA.enc p1.kids)]]⟩] ?_
 refine AW.ts (p1.op == (39 : Int)) (fun hb72 => ?_) (fun hb72 => ?_)
 ·have h := ifT hb72 h
  refine AW.reg mixed (by kernel_rfl) ?_
  apply obindE h; intro x73 hx74 h
  try simp only [go_sem, reduceEqDiff, reduceAdd, reduceSub, reduceMul, reduceLeDiff, reduceLT, Nat.reduceBEq, reduceIte, (idx_some hx74).1, (idx_some hx74).2]
  apply obindE h; intro r75 hx76 h
  have hc := nx (hself87 _ _ hx76)
  refine callK_grow [0] 1 hc (by simp only [go_sem, reduceEqDiff, reduceAdd, reduceSub, reduceMul, reduceLeDiff, reduceLT, Nat.reduceBEq, reduceIte] <;> rfl) (by simp) (by simp) (by simp only [go_sem, reduceEqDiff, reduceAdd, reduceSub, reduceMul, reduceLeDiff, reduceLT, Nat.reduceBEq, reduceIte, (idx_some hx74).1, (idx_some hx74).2]) ?_
  try simp only [go_sem, reduceEqDiff, reduceAdd, reduceSub, reduceMul, reduceLeDiff, reduceLT, Nat.reduceBEq, reduceIte, (idx_some hx74).1, (idx_some hx74).2]
  obtain rfl := Option.some.inj h
  refine nz ?_
  refine EndM.mk 8 (by decide) (by simp only [go_sem, reduceEqDiff, reduceAdd, reduceSub, reduceMul, reduceLeDiff, reduceLT, Nat.reduceBEq, reduceIte]) (ns ?_)
  exact ⟨.same _, ⟨⟨.same _, trivial⟩, trivial⟩⟩
 have h := ifF hb72 h
 refine AW.sk ?_
 obtain rfl := Option.some.inj h
 refine nz ?_
 refine EndM.mk 1 (by decide) (by simp only [go_sem, reduceEqDiff, reduceAdd, reduceSub, reduceMul, reduceLeDiff, reduceLT, Nat.reduceBEq, reduceIte]) (ns ?_)
 exact ⟨.same _, ⟨⟨.same _, trivial⟩, trivial⟩⟩
/-! ### (*isochrone/text.printer).program -/
def text_printer_program_body (K : Nat) (self30 : (Text_printerA × NodeA) → Option Text_printerA) (self62 : (Text_printerA × NodeA) → Option Text_printerA) (self63 : (Text_printerA × NodeA) → Option Text_printerA) (self64 : (Text_printerA × NodeA) → Option Text_printerA) (self87 : (Text_printerA × ByteArray × NodeA × ByteArray) → Option Text_printerA) (self88 : (Text_printerA × NodeA) → Option Text_printerA) (self90 : (Text_printerA × NodeA) → Option Text_printerA) (p0 : Text_printerA) (p1 : NodeA) : Option Text_printerA := if (p1.op == (50 : Int)) then
  (catO p1.name (⟨#[32, 58, 61, 32]⟩ : ByteArray)).bind fun s2 =>
  (idx p1.kids (0 : Int)).bind fun x4 =>
  (self87 (p0, s2, x4, (⟨#[]⟩ : ByteArray))).bind fun r6 =>
  some r6
 else
  if (p1.op == (51 : Int)) then
   (catO p1.name (⟨#[39, 32, 58, 61, 32]⟩ : ByteArray)).bind fun s9 =>
   (idx p1.kids (0 : Int)).bind fun x11 =>
   (self87 (p0, s9, x11, (⟨#[]⟩ : ByteArray))).bind fun r13 =>
   some r13
  else
   if (p1.op == (52 : Int)) then
    (text_printer_put K p0 [p1.name, (⟨#[32, 58, 61, 32, 42]⟩ : ByteArray)]).bind fun r16 =>
    some r16
   else
    if (p1.op == (53 : Int)) then
     (idx p1.kids (0 : Int)).bind fun x19 =>
     (self87 (p0, (⟨#[63]⟩ : ByteArray), x19, (⟨#[]⟩ : ByteArray))).bind fun r21 =>
     some r21
    else
     if (p1.op == (61 : Int)) then
      (text_printer_put K p0 [p1.name]).bind fun r24 =>
      some r24
     else
      if (p1.op == (62 : Int)) then
       (text_printer_put K p0 [p1.name, (⟨#[33]⟩ : ByteArray)]).bind fun r27 =>
       some r27
      else
       if (p1.op == (57 : Int)) then
        (idx p1.kids (0 : Int)).bind fun x30 =>
        (self87 (p0, (⟨#[123]⟩ : ByteArray), x30, (⟨#[32, 59, 32]⟩ : ByteArray))).bind fun r32 =>
        (idx p1.kids (1 : Int)).bind fun x34 =>
        (self87 (r32, (⟨#[]⟩ : ByteArray), x34, (⟨#[125]⟩ : ByteArray))).bind fun r36 =>
        some r36
       else
        if (p1.op == (58 : Int)) then
         (idx p1.kids (0 : Int)).bind fun x39 =>
         (self87 (p0, (⟨#[123]⟩ : ByteArray), x39, (⟨#[32, 43, 43, 32]⟩ : ByteArray))).bind fun r41 =>
         (idx p1.kids (1 : Int)).bind fun x43 =>
         (self87 (r41, (⟨#[]⟩ : ByteArray), x43, (⟨#[125]⟩ : ByteArray))).bind fun r45 =>
         some r45
        else
         if (p1.op == (59 : Int)) then
          (idx p1.kids (0 : Int)).bind fun x48 =>
          (self87 (p0, (⟨#[123]⟩ : ByteArray), x48, (⟨#[125, 42]⟩ : ByteArray))).bind fun r50 =>
          some r50
         else
          if (p1.op == (60 : Int)) then
           (idx p1.kids (0 : Int)).bind fun x53 =>
           (self87 (p0, (⟨#[123]⟩ : ByteArray), x53, (⟨#[125, 64]⟩ : ByteArray))).bind fun r55 =>
           some r55
          else
           if (p1.op == (54 : Int)) then
            (self90 (p0, p1)).bind fun r58 =>
            some r58
           else
            some p0
set_option maxHeartbeats 4000000 in
theorem text_printer_program_step (K : Nat) (self30 : (Text_printerA × NodeA) → Option Text_printerA) (self62 : (Text_printerA × NodeA) → Option Text_printerA) (self63 : (Text_printerA × NodeA) → Option Text_printerA) (self64 : (Text_printerA × NodeA) → Option Text_printerA) (self87 : (Text_printerA × ByteArray × NodeA × ByteArray) → Option Text_printerA) (self88 : (Text_printerA × NodeA) → Option Text_printerA) (self90 : (Text_printerA × NodeA) → Option Text_printerA) (hself30 : ∀ (q : Text_printerA × NodeA) (r : Text_printerA), self30 q = some r → Cm Tryz.prog 30 [.ptr 0 1 0 0, aggV q.2.enc] 1 ([some ⟨1, [[gV 1 1 q.1.b]]⟩] ++ [gO (fun x : Int => [D.val (.int .u8 x)]) 1 q.1.b]) (.tup []) ([some ⟨1, [[gV 1 1 r.b]]⟩] ++ [gO (fun x : Int => [D.val (.int .u8 x)]) 1 r.b])) (hself62 : ∀ (q : Text_printerA × NodeA) (r : Text_printerA), self62 q = some r → Cm Tryz.prog 62 [.ptr 0 1 0 0, aggV q.2.enc] 1 ([some ⟨1, [[gV 1 1 q.1.b]]⟩] ++ [gO (fun x : Int => [D.val (.int .u8 x)]) 1 q.1.b]) (.tup []) ([some ⟨1, [[gV 1 1 r.b]]⟩] ++ [gO (fun x : Int => [D.val (.int .u8 x)]) 1 r.b])) (hself63 : ∀ (q : Text_printerA × NodeA) (r : Text_printerA), self63 q = some r → Cm Tryz.prog 63 [.ptr 0 1 0 0, aggV q.2.enc] 1 ([some ⟨1, [[gV 1 1 q.1.b]]⟩] ++ [gO (fun x : Int => [D.val (.int .u8 x)]) 1 q.1.b]) (.tup []) ([some ⟨1, [[gV 1 1 r.b]]⟩] ++ [gO (fun x : Int => [D.val (.int .u8 x)]) 1 r.b])) (hself64 : ∀ (q : Text_printerA × NodeA) (r : Text_printerA), self64 q = some r → Cm Tryz.prog 64 [.ptr 0 1 0 0, aggV q.2.enc] 1 ([some ⟨1, [[gV 1 1 q.1.b]]⟩] ++ [gO (fun x : Int => [D.val (.int .u8 x)]) 1 q.1.b]) (.tup []) ([some ⟨1, [[gV 1 1 r.b]]⟩] ++ [gO (fun x : Int => [D.val (.int .u8 x)]) 1 r.b])) (hself87 : ∀ (q : Text_printerA × ByteArray × NodeA × ByteArray) (r : Text_printerA), self87 q = some r → Cm Tryz.prog 87 [.ptr 0 1 0 0, .d (.val (.string q.2.1)), aggV q.2.2.1.enc, .d (.val (.string q.2.2.2))] 1 ([some ⟨1, [[gV 1 1 q.1.b]]⟩] ++ [gO (fun x : Int => [D.val (.int .u8 x)]) 1 q.1.b]) (.tup []) ([some ⟨1, [[gV 1 1 r.b]]⟩] ++ [gO (fun x : Int => [D.val (.int .u8 x)]) 1 r.b])) (hself88 : ∀ (q : Text_printerA × NodeA) (r : Text_printerA), self88 q = some r → Cm Tryz.prog 88 [.ptr 0 1 0 0, aggV q.2.enc] 1 ([some ⟨1, [[gV 1 1 q.1.b]]⟩] ++ [gO (fun x : Int => [D.val (.int .u8 x)]) 1 q.1.b]) (.tup []) ([some ⟨1, [[gV 1 1 r.b]]⟩] ++ [gO (fun x : Int => [D.val (.int .u8 x)]) 1 r.b])) (hself90 : ∀ (q : Text_printerA × NodeA) (r : Text_printerA), self90 q = some r → Cm Tryz.prog 90 [.ptr 0 1 0 0, aggV q.2.enc] 1 ([some ⟨1, [[gV 1 1 q.1.b]]⟩] ++ [gO (fun x : Int => [D.val (.int .u8 x)]) 1 q.1.b]) (.tup []) ([some ⟨1, [[gV 1 1 r.b]]⟩] ++ [gO (fun x : Int => [D.val (.int .u8 x)]) 1 r.b])) (p0 : Text_printerA) (p1 : NodeA) (r : Text_printerA) (h : text_printer_program_body K self30 self62 self63 self64 self87 self88 self90 p0 p1 = some r) : Cm Tryz.prog 64 [.ptr 0 1 0 0, aggV p1.enc] 1 ([some ⟨1, [[gV 1 1 p0.b]]⟩] ++ [gO (fun x : Int => [D.val (.int .u8 x)]) 1 p0.b]) (.tup []) ([some ⟨1, [[gV 1 1 r.b]]⟩] ++ [gO (fun x : Int => [D.val (.int .u8 x)]) 1 r.b]) := by
 refine Cm.ofA mixed Tryz.func64 rfl Tryz.call64 Tryz.ntmps64 Tryz.results64 (by simp) rfl rfl (by simp only [go_sem, reduceEqDiff, reduceAdd, reduceSub, reduceMul, reduceLeDiff, reduceLT, Nat.reduceBEq, reduceIte, List.length_cons]) (by simp only [go_sem, reduceEqDiff, reduceAdd, reduceSub, reduceMul, reduceLeDiff, reduceLT, Nat.reduceBEq, reduceIte]) (by simp only [go_sem, reduceEqDiff, reduceAdd, reduceSub, reduceMul, reduceLeDiff, reduceLT, Nat.reduceBEq, reduceIte]) (by simp only [go_sem, reduceEqDiff, reduceAdd, reduceSub, reduceMul, reduceLeDiff, reduceLT, Nat.reduceBEq, reduceIte]) datO_g datO_g fun hfit => ?_
 unfold text_printer_program_body at h
 refine AW.cu [0, 1] [(0, .ptr 0 1 0 0), (1, .agg [.d (.val (.int .i64 p1.op)), .d (.val (.string p1.name)), .d (.val (.bool p1.num.neg)), .d (slD u32V p1.num.num), .d (slD u32V p1.num.den), .d (slD NodeA.enc p1.kids)])] [some ⟨1, [[gV 1 1 p0.b]]⟩, gO (fun x : Int => [D.val (.int .u8 x)]) 1 p0.b] ?_
 refine AW.op mixed ?_
 refine AW.cu [0, 1, 2] [(0, .ptr 0 1 0 0), (3, .ptr 2 6 0 0)] [some ⟨1, [[gV 1 1 p0.b]]⟩, gO (fun x : Int => [D.val (.int .u8 x)]) 1 p0.b, some ⟨6, [[.d (.val (.int .i64 p1.op)), .d (.val (.string p1.name)), .d (.val (.bool p1.num.neg)), .d (slD u32V p1.num.num), .d (slD u32V p1.num.den), .d (slD NodeA.enc p1.kids)]]⟩] ?_
 refine AW.op mixed ?_
 refine AW.cu [0, 1, 2] [(0, .ptr 0 1 0 0), (3, .ptr 2 6 0 0), (5, .d (.val (.int .i64 p1.op)))] [some ⟨1, [[gV 1 1 p0.b]]⟩, gO (fun x : Int => [D.val (.int .u8 x)]) 1 p0.b, some ⟨6, [[.d (.val (.int .i64 p1.op)), .d (.val (.string p1.name)), .d (.val (.bool p1.num.neg)), .d (slD u32V p1.num.num), .d (slD u32V p1.num.den), .d (slD NodeA.enc p1.kids)]]⟩] ?_
 refine AW.block ?_
 refine AW.op mixed ?_
 refine AW.cu [0, 1, 2] [(0, .ptr 0 1 0 0), (3, .ptr 2 6 0 0), (5, .d (.val (.int .i64 p1.op))), (6, .d (.val (.bool (p1.op == (50 : Int)))))] [some ⟨1, [[gV 1 1 p0.b]]⟩, gO (fun x : Int => [D.val (.int .u8 x)]) 1 p0.b, some ⟨6, [[.d (.val (.int .i64 p1.op)), .d (.val (.string p1.name)), .d (.val (.bool p1.num.neg)), .d (slD u32V p1.num.num), .d (slD u32V p1.num.den), .d (slD NodeA.enc p1.kids)]]⟩] ?_
 refine AW.ts (p1.op == (50 : Int)) (fun hb1 => ?_) (fun hb1 => ?_)
 ·have h := ifT hb1 h
  refine AW.reg3 mixed (by kernel_rfl) ?_
  try simp only [go_sem, reduceEqDiff, reduceAdd, reduceSub, reduceMul, reduceLeDiff, reduceLT, Nat.reduceBEq, reduceIte]
  apply obindE h; intro s2 hx3 h
  apply obindE h; intro x4 hx5 h
  try simp only [go_sem, reduceEqDiff, reduceAdd, reduceSub, reduceMul, reduceLeDiff, reduceLT, Nat.reduceBEq, reduceIte, bop_cat (P := Tryz.prog) hx3, (idx_some hx5).1, (idx_some hx5).2]
  apply obindE h; intro r6 hx7 h
  have hc := nx (hself87 _ _ hx7)
  refine callK_grow [0] 1 hc (by simp only [go_sem, reduceEqDiff, reduceAdd, reduceSub, reduceMul, reduceLeDiff, reduceLT, Nat.reduceBEq, reduceIte] <;> rfl) (by simp) (by simp) (by simp only [go_sem, reduceEqDiff, reduceAdd, reduceSub, reduceMul, reduceLeDiff, reduceLT, Nat.reduceBEq, reduceIte, bop_cat (P := Tryz.prog) hx3, (idx_some hx5).1, (idx_some hx5).2]) ?_
  try simp only [go_sem, reduceEqDiff, reduceAdd, reduceSub, reduceMul, reduceLeDiff, reduceLT, Nat.reduceBEq, reduceIte, bop_cat (P := Tryz.prog) hx3, (idx_some hx5).1, (idx_some hx5).2]
  obtain rfl := Option.some.inj h
  refine nz ?_
  refine EndM.mk 11 (by decide) (by simp only [go_sem, reduceEqDiff, reduceAdd, reduceSub, reduceMul, reduceLeDiff, reduceLT, Nat.reduceBEq, reduceIte]) (ns ?_)
  exact ⟨.same _, ⟨⟨.same _, trivial⟩, trivial⟩⟩
 have h := ifF hb1 h
 refine AW.op mixed ?_
 refine AW.cu [0, 1, 2] [(0, .ptr 0 1 0 0), (3, .ptr 2 6 0 0), (5, .d (.val (.int .i64 p1.op))), (17, .d (.val (.bool (p1.op == (51 : Int)))))] [some ⟨1, [[gV 1 1 p0.b]]⟩, gO (fun x : Int => [D.val (.int .u8 x)]) 1 p0.b, some ⟨6, [[.d (.val (.int .i64 p1.op)), .d (.val (.string p1.name)), .d (.val (.bool p1.num.neg)), .d (slD u32V p1.num.num), .d (slD u32V p1.num.den), .d (slD NodeA.enc p1.kids)]]⟩] ?_
 refine AW.ts (p1.op == (51 : Int)) (fun hb8 => ?_) (fun hb8 => ?_)
 ·have h := ifT hb8 h
  refine AW.reg3 mixed (by kernel_rfl) ?_
  try simp only [go_sem, reduceEqDiff, reduceAdd, reduceSub, reduceMul, reduceLeDiff, reduceLT, Nat.reduceBEq, reduceIte]
  apply obindE h; intro s9 hx10 h
  apply obindE h; intro x11 hx12 h
  try simp only [go_sem, reduceEqDiff, reduceAdd, reduceSub, reduceMul, reduceLeDiff, reduceLT, Nat.reduceBEq, reduceIte, bop_cat (P := Tryz.prog) hx10, (idx_some hx12).1, (idx_some hx12).2]
  apply obindE h; intro r13 hx14 h
  have hc := nx (hself87 _ _ hx14)
  refine callK_grow [0] 1 hc (by simp only [go_sem, reduceEqDiff, reduceAdd, reduceSub, reduceMul, reduceLeDiff, reduceLT, Nat.reduceBEq, reduceIte] <;> rfl) (by simp) (by simp) (by simp only [go_sem, reduceEqDiff, reduceAdd, reduceSub, reduceMul, reduceLeDiff, reduceLT, Nat.reduceBEq, reduceIte, bop_cat (P := Tryz.prog) hx10, (idx_some hx12).1, (idx_some hx12).2]) ?_
  try simp only [go_sem, reduceEqDiff, reduceAdd, reduceSub, reduceMul, reduceLeDiff, reduceLT, Nat.reduceBEq, reduceIte, bop_cat (P := Tryz.prog) hx10, (idx_some hx12).1, (idx_some hx12).2]
  obtain rfl := Option.some.inj h
  refine nz ?_
  refine EndM.mk 11 (by decide) (by simp only [go_sem, reduceEqDiff, reduceAdd, reduceSub, reduceMul, reduceLeDiff, reduceLT, Nat.reduceBEq, reduceIte]) (ns ?_)
  exact ⟨.same _, ⟨⟨.same _, trivial⟩, trivial⟩⟩
 have h := ifF hb8 h
 refine AW.op mixed ?_
 refine AW.cu [0, 1, 2] [(0, .ptr 0 1 0 0), (3, .ptr 2 6 0 0), (5, .d (.val (.int .i64 p1.op))), (28, .d (.val (.bool (p1.op == (52 : Int)))))] [some ⟨1, [[gV 1 1 p0.b]]⟩, gO (fun x : Int => [D.val (.int .u8 x)]) 1 p0.b, some ⟨6, [[.d (.val (.int .i64 p1.op)), .d (.val (.string p1.name)), .d (.val (.bool p1.num.neg)), .d (slD u32V p1.num.num), .d (slD u32V p1.num.den), .d (slD NodeA.enc p1.kids)]]⟩] ?_
 refine AW.ts (p1.op == (52 : Int)) (fun hb15 => ?_) (fun hb15 => ?_)
 ·have h := ifT hb15 h
  refine AW.rg mixed ?_
  apply obindE h; intro r16 hx17 h
  have hc := nx (text_printer_put_ok (h := hx17))
  refine callK_grow [0] 1 hc (by simp only [go_sem, reduceEqDiff, reduceAdd, reduceSub, reduceMul, reduceLeDiff, reduceLT, Nat.reduceBEq, reduceIte] <;> rfl) (by simp) (by simp) (by simp only [go_sem, reduceEqDiff, reduceAdd, reduceSub, reduceMul, reduceLeDiff, reduceLT, Nat.reduceBEq, reduceIte]) ?_
  try simp only [go_sem, reduceEqDiff, reduceAdd, reduceSub, reduceMul, reduceLeDiff, reduceLT, Nat.reduceBEq, reduceIte]
  obtain rfl := Option.some.inj h
  refine nz ?_
  refine EndM.mk 7 (by decide) (by simp only [go_sem, reduceEqDiff, reduceAdd, reduceSub, reduceMul, reduceLeDiff, reduceLT, Nat.reduceBEq, reduceIte]) (ns ?_)
  exact ⟨.same _, ⟨⟨.same _, trivial⟩, trivial⟩⟩
 have h := ifF hb15 h
 refine AW.op mixed ?_
 refine AW.cu [0, 1, 2] [(0, .ptr 0 1 0 0), (3, .ptr 2 6 0 0), (5, .d (.val (.int .i64 p1.op))), (35, .d (.val (.bool (p1.op == (53 : Int)))))] [some ⟨1, [[gV 1 1 p0.b]]⟩, gO (fun x : Int => [D.val (.int .u8 x)]) 1 p0.b, some ⟨6, [[.d (.val (.int .i64 p1.op)), .d (.val (.string p1.name)), .d (.val (.bool p1.num.neg)), .d (slD u32V p1.num.num), .d (slD u32V p1.num.den), .d (slD NodeA.enc p1.kids)]]⟩] ?_
 refine AW.ts (p1.op == (53 : Int)) (fun hb18 => ?_) (fun hb18 => ?_)
 ·have h := ifT hb18 h
  refine AW.reg mixed (by kernel_rfl) ?_
  apply obindE h; intro x19 hx20 h
  try simp only [go_sem, reduceEqDiff, reduceAdd, reduceSub, reduceMul, reduceLeDiff, reduceLT, Nat.reduceBEq, reduceIte, (idx_some hx20).1, (idx_some hx20).2]
  apply obindE h; intro r21 hx22 h
  have hc := nx (hself87 _ _ hx22)
  refine callK_grow [0] 1 hc (by simp only [go_sem, reduceEqDiff, reduceAdd, reduceSub, reduceMul, reduceLeDiff, reduceLT, Nat.reduceBEq, reduceIte] <;> rfl) (by simp) (by simp) (by simp only [go_sem, reduceEqDiff, reduceAdd, reduceSub, reduceMul, reduceLeDiff, reduceLT, Nat.reduceBEq, reduceIte, (idx_some hx20).1, (idx_some hx20).2]) ?_
  try simp only [go_sem, reduceEqDiff, reduceAdd, reduceSub, reduceMul, reduceLeDiff, reduceLT, Nat.reduceBEq, reduceIte, (idx_some hx20).1, (idx_some hx20).2]
  obtain rfl := Option.some.inj h
  refine nz ?_
  refine EndM.mk 8 (by decide) (by simp only [go_sem, reduceEqDiff, reduceAdd, reduceSub, reduceMul, reduceLeDiff, reduceLT, Nat.reduceBEq, reduceIte]) (ns ?_)
  exact ⟨.same _, ⟨⟨.same _, trivial⟩, trivial⟩⟩
 have h := ifF hb18 h
 refine AW.op mixed ?_
 refine AW.cu [0, 1, 2] [(0, .ptr 0 1 0 0), (3, .ptr 2 6 0 0), (5, .d (.val (.int .i64 p1.op))), (43, .d (.val (.bool (p1.op == (61 : Int)))))] [some ⟨1, [[gV 1 1 p0.b]]⟩, gO (fun x : Int => [D.val (.int .u8 x)]) 1 p0.b, some ⟨6, [[.d (.val (.int .i64 p1.op)), .d (.val (.string p1.name)), .d (.val (.bool p1.num.neg)), .d (slD u32V p1.num.num), .d (slD u32V p1.num.den), .d (slD NodeA.enc p1.kids)]]⟩] ?_
 refine AW.ts (p1.op == (61 : Int)) (fun hb23 => ?_) (fun hb23 => ?_)
 ·have h := ifT hb23 h
  refine AW.rg mixed ?_
  apply obindE h; intro r24 hx25 h
  have hc := nx (text_printer_put_ok (h := hx25))
  refine callK_grow [0] 1 hc (by simp only [go_sem, reduceEqDiff, reduceAdd, reduceSub, reduceMul, reduceLeDiff, reduceLT, Nat.reduceBEq, reduceIte] <;> rfl) (by simp) (by simp) (by simp only [go_sem, reduceEqDiff, reduceAdd, reduceSub, reduceMul, reduceLeDiff, reduceLT, Nat.reduceBEq, reduceIte]) ?_
  try simp only [go_sem, reduceEqDiff, reduceAdd, reduceSub, reduceMul, reduceLeDiff, reduceLT, Nat.reduceBEq, reduceIte]
  obtain rfl := Option.some.inj h
  refine nz ?_
  refine EndM.mk 7 (by decide) (by simp only [go_sem, reduceEqDiff, reduceAdd, reduceSub, reduceMul, reduceLeDiff, reduceLT, Nat.reduceBEq, reduceIte]) (ns ?_)
  exact ⟨.same _, ⟨⟨.same _, trivial⟩, trivial⟩⟩
 have h := ifF hb23 h
 refine AW.op mixed ?_
 refine AW.cu [0, 1, 2] [(0, .ptr 0 1 0 0), (3, .ptr 2 6 0 0), (5, .d (.val (.int .i64 p1.op))), (50, .d (.val (.bool (p1.op == (62 : Int)))))] [some ⟨1, [[gV 1 1 p0.b]]⟩, gO (fun x : Int => [D.val (.int .u8 x)]) 1 p0.b, some ⟨6, [[.d (.val (.int .i64 p1.op)), .d (.val (.string p1.name)), .d (.val (.bool p1.num.neg)), .d (slD u32V p1.num.num), .d (slD u32V p1.num.den), .d (slD NodeA.enc p1.kids)]]⟩] ?_
 refine AW.ts (p1.op == (62 : Int)) (fun hb26 => ?_) (fun hb26 => ?_)
 ·have h := ifT hb26 h
  refine AW.rg mixed ?_
  apply obindE h; intro r27 hx28 h
  have hc := nx (text_printer_put_ok (h := hx28))
  refine callK_grow [0] 1 hc (by simp only [go_sem, reduceEqDiff, reduceAdd, reduceSub, reduceMul, reduceLeDiff, reduceLT, Nat.reduceBEq, reduceIte] <;> rfl) (by simp) (by simp) (by simp only [go_sem, reduceEqDiff, reduceAdd, reduceSub, reduceMul, reduceLeDiff, reduceLT, Nat.reduceBEq, reduceIte]) ?_
  try simp only [go_sem, reduceEqDiff, reduceAdd, reduceSub, reduceMul, reduceLeDiff, reduceLT, Nat.reduceBEq, reduceIte]
  obtain rfl := Option.some.inj h
  refine nz ?_
  refine EndM.mk 7 (by decide) (by simp only [go_sem, reduceEqDiff, reduceAdd, reduceSub, reduceMul, reduceLeDiff, reduceLT, Nat.reduceBEq, reduceIte]) (ns ?_)
  exact ⟨.same _, ⟨⟨.same _, trivial⟩, trivial⟩⟩
 have h := ifF hb26 h
 refine AW.op mixed ?_
 refine AW.cu [0, 1, 2] [(0, .ptr 0 1 0 0), (3, .ptr 2 6 0 0), (5, .d (.val (.int .i64 p1.op))), (57, .d (.val (.bool (p1.op == (57 : Int)))))] [some ⟨1, [[gV 1 1 p0.b]]⟩, gO (fun x : Int => [D.val (.int .u8 x)]) 1 p0.b, some ⟨6, [[.d (.val (.int .i64 p1.op)), .d (.val (.string p1.name)), .d (.val (.bool p1.num.neg)), .d (slD u32V p1.num.num), .d (slD u32V p1.num.den), .d (slD NodeA.enc p1.kids)]]⟩] ?_
 refine AW.ts (p1.op == (57 : Int)) (fun hb29 => ?_) (fun hb29 => ?_)
 ·have h := ifT hb29 h
  refine AW.one ?_
  refine AW.reg mixed (by kernel_rfl) ?_
  apply obindE h; intro x30 hx31 h
  try simp only [go_sem, reduceEqDiff, reduceAdd, reduceSub, reduceMul, reduceLeDiff, reduceLT, Nat.reduceBEq, reduceIte, (idx_some hx31).1, (idx_some hx31).2]
  apply obindE h; intro r32 hx33 h
  have hc := nx (hself87 _ _ hx33)
  refine callK_grow [0] 1 hc (by simp only [go_sem, reduceEqDiff, reduceAdd, reduceSub, reduceMul, reduceLeDiff, reduceLT, Nat.reduceBEq, reduceIte] <;> rfl) (by simp) (by simp) (by simp only [go_sem, reduceEqDiff, reduceAdd, reduceSub, reduceMul, reduceLeDiff, reduceLT, Nat.reduceBEq, reduceIte, (idx_some hx31).1, (idx_some hx31).2]) ?_
  try simp only [go_sem, reduceEqDiff, reduceAdd, reduceSub, reduceMul, reduceLeDiff, reduceLT, Nat.reduceBEq, reduceIte, (idx_some hx31).1, (idx_some hx31).2]
  refine AW.cut [0, 8, 2] [(0, .ptr 0 1 0 0), (3, .ptr 2 6 0 0)] [some ⟨1, [[gV 1 1 r32.b]]⟩, gO (fun x : Int => [D.val (.int .u8 x)]) 1 r32.b, some ⟨6, [[.d (.val (.int .i64 p1.op)), .d (.val (.string p1.name)), .d (.val (.bool p1.num.neg)), .d (slD u32V p1.num.num), .d (slD u32V p1.num.den), .d (slD NodeA.enc p1.kids)]]⟩] (by simp only [go_sem, reduceEqDiff, reduceAdd, reduceSub, reduceMul, reduceLeDiff, reduceLT, Nat.reduceBEq, reduceIte, (idx_some hx31).1, (idx_some hx31).2]) ?_
  refine AW.reg mixed (by kernel_rfl) ?_
  apply obindE h; intro x34 hx35 h
  try simp only [go_sem, reduceEqDiff, reduceAdd, reduceSub, reduceMul, reduceLeDiff, reduceLT, Nat.reduceBEq, reduceIte, (idx_some hx35).1, (idx_some hx35).2]
  apply obindE h; intro r36 hx37 h
  have hc := nx (hself87 _ _ hx37)
  refine callK_grow [0] 1 hc (by simp only [go_sem, reduceEqDiff, reduceAdd, reduceSub, reduceMul, reduceLeDiff, reduceLT, Nat.reduceBEq, reduceIte] <;> rfl) (by simp) (by simp) (by simp only [go_sem, reduceEqDiff, reduceAdd, reduceSub, reduceMul, reduceLeDiff, reduceLT, Nat.reduceBEq, reduceIte, (idx_some hx35).1, (idx_some hx35).2]) ?_
  try simp only [go_sem, reduceEqDiff, reduceAdd, reduceSub, reduceMul, reduceLeDiff, reduceLT, Nat.reduceBEq, reduceIte, (idx_some hx35).1, (idx_some hx35).2]
  obtain rfl := Option.some.inj h
  refine nz ?_
  refine EndM.mk 8 (by decide) (by simp only [go_sem, reduceEqDiff, reduceAdd, reduceSub, reduceMul, reduceLeDiff, reduceLT, Nat.reduceBEq, reduceIte]) (ns ?_)
  exact ⟨.same _, ⟨⟨.same _, trivial⟩, trivial⟩⟩
 have h := ifF hb29 h
 refine AW.op mixed ?_
 refine AW.cu [0, 1, 2] [(0, .ptr 0 1 0 0), (3, .ptr 2 6 0 0), (5, .d (.val (.int .i64 p1.op))), (71, .d (.val (.bool (p1.op == (58 : Int)))))] [some ⟨1, [[gV 1 1 p0.b]]⟩, gO (fun x : Int => [D.val (.int .u8 x)]) 1 p0.b, some ⟨6, [[.d (.val (.int .i64 p1.op)), .d (.val (.string p1.name)), .d (.val (.bool p1.num.neg)), .d (slD u32V p1.num.num), .d (slD u32V p1.num.den), .d (slD NodeA.enc p1.kids)]]⟩] ?_
 refine AW.ts (p1.op == (58 : Int)) (fun hb38 => ?_) (fun hb38 => ?_)
 ·have h := ifT hb38 h
  refine AW.one ?_
  refine AW.reg mixed (by kernel_rfl) ?_
  apply obindE h; intro x39 hx40 h
  try simp only [go_sem, reduceEqDiff, reduceAdd, reduceSub, reduceMul, reduceLeDiff, reduceLT, Nat.reduceBEq, reduceIte, (idx_some hx40).1, (idx_some hx40).2]
  apply obindE h; intro r41 hx42 h
  have hc := nx (hself87 _ _ hx42)
  refine callK_grow [0] 1 hc (by simp only [go_sem, reduceEqDiff, reduceAdd, reduceSub, reduceMul, reduceLeDiff, reduceLT, Nat.reduceBEq, reduceIte] <;> rfl) (by simp) (by simp) (by simp only [go_sem, reduceEqDiff, reduceAdd, reduceSub, reduceMul, reduceLeDiff, reduceLT, Nat.reduceBEq, reduceIte, (idx_some hx40).1, (idx_some hx40).2]) ?_
  try simp only [go_sem, reduceEqDiff, reduceAdd, reduceSub, reduceMul, reduceLeDiff, reduceLT, Nat.reduceBEq, reduceIte, (idx_some hx40).1, (idx_some hx40).2]
  refine AW.cut [0, 8, 2] [(0, .ptr 0 1 0 0), (3, .ptr 2 6 0 0)] [some ⟨1, [[gV 1 1 r41.b]]⟩, gO (fun x : Int => [D.val (.int .u8 x)]) 1 r41.b, some ⟨6, [[.d (.val (.int .i64 p1.op)), .d (.val (.string p1.name)), .d (.val (.bool p1.num.neg)), .d (slD u32V p1.num.num), .d (slD u32V p1.num.den), .d (slD NodeA.enc p1.kids)]]⟩] (by simp only [go_sem, reduceEqDiff, reduceAdd, reduceSub, reduceMul, reduceLeDiff, reduceLT, Nat.reduceBEq, reduceIte, (idx_some hx40).1, (idx_some hx40).2]) ?_
  refine AW.reg mixed (by kernel_rfl) ?_
  apply obindE h; intro x43 hx44 h
  try simp only [go_sem, reduceEqDiff, reduceAdd, reduceSub, reduceMul, reduceLeDiff, reduceLT, Nat.reduceBEq, reduceIte, (idx_some hx44).1, (idx_some hx44).2]
  apply obindE h; intro r45 hx46 h
  have hc := nx (hself87 _ _ hx46)
  refine callK_grow [0] 1 hc (by simp only [go_sem, reduceEqDiff, reduceAdd, reduceSub, reduceMul, reduceLeDiff, reduceLT, Nat.reduceBEq, reduceIte] <;> rfl) (by simp) (by simp) (by simp only [go_sem, reduceEqDiff, reduceAdd, reduceSub, reduceMul, reduceLeDiff, reduceLT, Nat.reduceBEq, reduceIte, (idx_some hx44).1, (idx_some hx44).2]) ?_
  try simp only [go_sem, reduceEqDiff, reduceAdd, reduceSub, reduceMul, reduceLeDiff, reduceLT, Nat.reduceBEq, reduceIte, (idx_some hx44).1, (idx_some hx44).2]
  obtain rfl := Option.some.inj h
  refine nz ?_
  refine EndM.mk 8 (by decide) (by simp only [go_sem, reduceEqDiff, reduceAdd, reduceSub, reduceMul, reduceLeDiff, reduceLT, Nat.reduceBEq, reduceIte]) (ns ?_)
  exact ⟨.same _, ⟨⟨.same _, trivial⟩, trivial⟩⟩
 have h := ifF hb38 h
 refine AW.op mixed ?_
 refine AW.cu [0, 1, 2] [(0, .ptr 0 1 0 0), (3, .ptr 2 6 0 0), (5, .d (.val (.int .i64 p1.op))), (85, .d (.val (.bool (p1.op == (59 : Int)))))] [some ⟨1, [[gV 1 1 p0.b]]⟩, gO (fun x : Int => [D.val (.int .u8 x)]) 1 p0.b, some ⟨6, [[.d (.val (.int .i64 p1.op)), .d (.val (.string p1.name)), .d (.val (.bool p1.num.neg)), .d (slD u32V p1.num.num), .d (slD u32V p1.num.den), .d (slD NodeA.enc p1.kids)]]⟩] ?_
 refine AW.ts (p1.op == (59 : Int)) (fun hb47 => ?_) (fun hb47 => ?_)
 ·have h := ifT hb47 h
  refine AW.reg mixed (by kernel_rfl) ?_
  apply obindE h; intro x48 hx49 h
  try simp only [go_sem, reduceEqDiff, reduceAdd, reduceSub, reduceMul, reduceLeDiff, reduceLT, Nat.reduceBEq, reduceIte, (idx_some hx49).1, (idx_some hx49).2]
  apply obindE h; intro r50 hx51 h
  have hc := nx (hself87 _ _ hx51)
  refine callK_grow [0] 1 hc (by simp only [go_sem, reduceEqDiff, reduceAdd, reduceSub, reduceMul, reduceLeDiff, reduceLT, Nat.reduceBEq, reduceIte] <;> rfl) (by simp) (by simp) (by simp only [go_sem, reduceEqDiff, reduceAdd, reduceSub, reduceMul, reduceLeDiff, reduceLT, Nat.reduceBEq, reduceIte, (idx_some hx49).1, (idx_some hx49).2]) ?_
  try simp only [go_sem, reduceEqDiff, reduceAdd, reduceSub, reduceMul, reduceLeDiff, reduceLT, Nat.reduceBEq, reduceIte, (idx_some hx49).1, (idx_some hx49).2]
  obtain rfl := Option.some.inj h
  refine nz ?_
  refine EndM.mk 8 (by decide) (by simp only [go_sem, reduceEqDiff, reduceAdd, reduceSub, reduceMul, reduceLeDiff, reduceLT, Nat.reduceBEq, reduceIte]) (ns ?_)
  exact ⟨.same _, ⟨⟨.same _, trivial⟩, trivial⟩⟩
 have h := ifF hb47 h
 refine AW.op mixed ?_
 refine AW.cu [0, 1, 2] [(0, .ptr 0 1 0 0), (3, .ptr 2 6 0 0), (5, .d (.val (.int .i64 p1.op))), (93, .d (.val (.bool (p1.op == (60 : Int)))))] [some ⟨1, [[gV 1 1 p0.b]]⟩, gO (fun x : Int => [D.val (.int .u8 x)]) 1 p0.b, some ⟨6, [[.d (.val (.int .i64 p1.op)), .d (.val (.string p1.name)), .d (.val (.bool p1.num.neg)), .d (slD u32V p1.num.num), .d (slD u32V p1.num.den), .d (slD NodeA.enc p1.kids)]]⟩] ?_
 refine AW.ts (p1.op == (60 : Int)) (fun hb52 => ?_) (fun hb52 => ?_)
 ·have h := ifT hb52 h
  refine AW.reg mixed (by kernel_rfl) ?_
  apply obindE h; intro x53 hx54 h
  try simp only [go_sem, reduceEqDiff, reduceAdd, reduceSub, reduceMul, reduceLeDiff, reduceLT, Nat.reduceBEq, reduceIte, (idx_some hx54).1, (idx_some hx54).2]
  apply obindE h; intro r55 hx56 h
  have hc := nx (hself87 _ _ hx56)
  refine callK_grow [0] 1 hc (by simp only [go_sem, reduceEqDiff, reduceAdd, reduceSub, reduceMul, reduceLeDiff, reduceLT, Nat.reduceBEq, reduceIte] <;> rfl) (by simp) (by simp) (by simp only [go_sem, reduceEqDiff, reduceAdd, reduceSub, reduceMul, reduceLeDiff, reduceLT, Nat.reduceBEq, reduceIte, (idx_some hx54).1, (idx_some hx54).2]) ?_
  try simp only [go_sem, reduceEqDiff, reduceAdd, reduceSub, reduceMul, reduceLeDiff, reduceLT, Nat.reduceBEq, reduceIte, (idx_some hx54).1, (idx_some hx54).2]
  obtain rfl := Option.some.inj h
  refine nz ?_
  refine EndM.mk 8 (by decide) (by simp only [go_sem, reduceEqDiff, reduceAdd, reduceSub, reduceMul, reduceLeDiff, reduceLT, Nat.reduceBEq, reduceIte]) (ns ?_)
  exact ⟨.same _, ⟨⟨.same _, trivial⟩, trivial⟩⟩
 have h := ifF hb52 h
 refine AW.op mixed ?_
 refine AW.cu [0, 1, 2] [(0, .ptr 0 1 0 0), (3, .ptr 2 6 0 0), (101, .d (.val (.bool (p1.op == (54 : Int)))))] [some ⟨1, [[gV 1 1 p0.b]]⟩, gO (fun x : Int => [D.val (.int .u8 x)]) 1 p0.b, some ⟨6, [[.d (.val (.int .i64 p1.op)), .d (.val (.string p1.name)), .d (.val (.bool p1.num.neg)), .d (slD u32V p1.num.num), .d (slD u32V p1.num.den), .d (slD NodeA.enc p1.kids)]]⟩] ?_
 refine AW.ts (p1.op == (54 : Int)) (fun hb57 => ?_) (fun hb57 => ?_)
 ·have h := ifT hb57 h
  refine AW.rg mixed ?_
  apply obindE h; intro r58 hx59 h
  have hc := nx (hself90 _ _ hx59)
  refine callK_grow [0] 1 hc (by simp only [go_sem, reduceEqDiff, reduceAdd, reduceSub, reduceMul, reduceLeDiff, reduceLT, Nat.reduceBEq, reduceIte] <;> rfl) (by simp) (by simp) (by simp only [go_sem, reduceEqDiff, reduceAdd, reduceSub, reduceMul, reduceLeDiff, reduceLT, Nat.reduceBEq, reduceIte]) ?_
  try simp only [go_sem, reduceEqDiff, reduceAdd, reduceSub, reduceMul, reduceLeDiff, reduceLT, Nat.reduceBEq, reduceIte]
  obtain rfl := Option.some.inj h
  refine nz ?_
  refine EndM.mk 5 (by decide) (by simp only [go_sem, reduceEqDiff, reduceAdd, reduceSub, reduceMul, reduceLeDiff, reduceLT, Nat.reduceBEq, reduceIte]) (ns ?_)
  exact ⟨.same _, ⟨⟨.same _, trivial⟩, trivial⟩⟩
 have h := ifF hb57 h
 refine AW.sk ?_
 obtain rfl := Option.some.inj h
 refine nz ?_
 refine EndM.mk 1 (by decide) (by simp only [go_sem, reduceEqDiff, reduceAdd, reduceSub, reduceMul, reduceLeDiff, reduceLT, Nat.reduceBEq, reduceIte]) (ns ?_)
 exact ⟨.same _, ⟨⟨.same _, trivial⟩, trivial⟩⟩
/-! ### (*isochrone/text.printer).around -/
def text_printer_around_body (K : Nat) (self30 : (Text_printerA × NodeA) → Option Text_printerA) (self62 : (Text_printerA × NodeA) → Option Text_printerA) (self63 : (Text_printerA × NodeA) → Option Text_printerA) (self64 : (Text_printerA × NodeA) → Option Text_printerA) (self87 : (Text_printerA × ByteArray × NodeA × ByteArray) → Option Text_printerA) (self88 : (Text_printerA × NodeA) → Option Text_printerA) (self90 : (Text_printerA × NodeA) → Option Text_printerA) (p0 : Text_printerA) (p1 : ByteArray) (p2 : NodeA) (p3 : ByteArray) : Option Text_printerA := (text_printer_put K p0 [p1]).bind fun r1 =>
 (self30 (r1, p2)).bind fun r3 =>
 (text_printer_put K r3 [p3]).bind fun r5 =>
 some r5
set_option maxHeartbeats 4000000 in
theorem text_printer_around_step (K : Nat) (self30 : (Text_printerA × NodeA) → Option Text_printerA) (self62 : (Text_printerA × NodeA) → Option Text_printerA) (self63 : (Text_printerA × NodeA) → Option Text_printerA) (self64 : (Text_printerA × NodeA) → Option Text_printerA) (self87 : (Text_printerA × ByteArray × NodeA × ByteArray) → Option Text_printerA) (self88 : (Text_printerA × NodeA) → Option Text_printerA) (self90 : (Text_printerA × NodeA) → Option Text_printerA) (hself30 : ∀ (q : Text_printerA × NodeA) (r : Text_printerA), self30 q = some r → Cm Tryz.prog 30 [.ptr 0 1 0 0, aggV q.2.enc] 1 ([some ⟨1, [[gV 1 1 q.1.b]]⟩] ++ [gO (fun x : Int => [D.val (.int .u8 x)]) 1 q.1.b]) (.tup []) ([some ⟨1, [[gV 1 1 r.b]]⟩] ++ [gO (fun x : Int => [D.val (.int .u8 x)]) 1 r.b])) (hself62 : ∀ (q : Text_printerA × NodeA) (r : Text_printerA), self62 q = some r → Cm Tryz.prog 62 [.ptr 0 1 0 0, aggV q.2.enc] 1 ([some ⟨1, [[gV 1 1 q.1.b]]⟩] ++ [gO (fun x : Int => [D.val (.int .u8 x)]) 1 q.1.b]) (.tup []) ([some ⟨1, [[gV 1 1 r.b]]⟩] ++ [gO (fun x : Int => [D.val (.int .u8 x)]) 1 r.b])) (hself63 : ∀ (q : Text_printerA × NodeA) (r : Text_printerA), self63 q = some r → Cm Tryz.prog 63 [.ptr 0 1 0 0, aggV q.2.enc] 1 ([some ⟨1, [[gV 1 1 q.1.b]]⟩] ++ [gO (fun x : Int => [D.val (.int .u8 x)]) 1 q.1.b]) (.tup []) ([some ⟨1, [[gV 1 1 r.b]]⟩] ++ [gO (fun x : Int => [D.val (.int .u8 x)]) 1 r.b])) (hself64 : ∀ (q : Text_printerA × NodeA) (r : Text_printerA), self64 q = some r → Cm Tryz.prog 64 [.ptr 0 1 0 0, aggV q.2.enc] 1 ([some ⟨1, [[gV 1 1 q.1.b]]⟩] ++ [gO (fun x : Int => [D.val (.int .u8 x)]) 1 q.1.b]) (.tup []) ([some ⟨1, [[gV 1 1 r.b]]⟩] ++ [gO (fun x : Int => [D.val (.int .u8 x)]) 1 r.b])) (hself87 : ∀ (q : Text_printerA × ByteArray × NodeA × ByteArray) (r : Text_printerA), self87 q = some r → Cm Tryz.prog 87 [.ptr 0 1 0 0, .d (.val (.string q.2.1)), aggV q.2.2.1.enc, .d (.val (.string q.2.2.2))] 1 ([some ⟨1, [[gV 1 1 q.1.b]]⟩] ++ [gO (fun x : Int => [D.val (.int .u8 x)]) 1 q.1.b]) (.tup []) ([some ⟨1, [[gV 1 1 r.b]]⟩] ++ [gO (fun x : Int => [D.val (.int .u8 x)]) 1 r.b])) (hself88 : ∀ (q : Text_printerA × NodeA) (r : Text_printerA), self88 q = some r → Cm Tryz.prog 88 [.ptr 0 1 0 0, aggV q.2.enc] 1 ([some ⟨1, [[gV 1 1 q.1.b]]⟩] ++ [gO (fun x : Int => [D.val (.int .u8 x)]) 1 q.1.b]) (.tup []) ([some ⟨1, [[gV 1 1 r.b]]⟩] ++ [gO (fun x : Int => [D.val (.int .u8 x)]) 1 r.b])) (hself90 : ∀ (q : Text_printerA × NodeA) (r : Text_printerA), self90 q = some r → Cm Tryz.prog 90 [.ptr 0 1 0 0, aggV q.2.enc] 1 ([some ⟨1, [[gV 1 1 q.1.b]]⟩] ++ [gO (fun x : Int => [D.val (.int .u8 x)]) 1 q.1.b]) (.tup []) ([some ⟨1, [[gV 1 1 r.b]]⟩] ++ [gO (fun x : Int => [D.val (.int .u8 x)]) 1 r.b])) (p0 : Text_printerA) (p1 : ByteArray) (p2 : NodeA) (p3 : ByteArray) (r : Text_printerA) (h : text_printer_around_body K self30 self62 self63 self64 self87 self88 self90 p0 p1 p2 p3 = some r) : Cm Tryz.prog 87 [.ptr 0 1 0 0, .d (.val (.string p1)), aggV p2.enc, .d (.val (.string p3))] 1 ([some ⟨1, [[gV 1 1 p0.b]]⟩] ++ [gO (fun x : Int => [D.val (.int .u8 x)]) 1 p0.b]) (.tup []) ([some ⟨1, [[gV 1 1 r.b]]⟩] ++ [gO (fun x : Int => [D.val (.int .u8 x)]) 1 r.b]) := by
 refine Cm.ofA mixed Tryz.func87 rfl Tryz.call87 Tryz.ntmps87 Tryz.results87 (by simp) rfl rfl (by simp only [go_sem, reduceEqDiff, reduceAdd, reduceSub, reduceMul, reduceLeDiff, reduceLT, Nat.reduceBEq, reduceIte, List.length_cons]) (by simp only [go_sem, reduceEqDiff, reduceAdd, reduceSub, reduceMul, reduceLeDiff, reduceLT, Nat.reduceBEq, reduceIte]) (by simp only [go_sem, reduceEqDiff, reduceAdd, reduceSub, reduceMul, reduceLeDiff, reduceLT, Nat.reduceBEq, reduceIte]) (by simp only [go_sem, reduceEqDiff, reduceAdd, reduceSub, reduceMul, reduceLeDiff, reduceLT, Nat.reduceBEq, reduceIte]) datO_g datO_g fun hfit => ?_
 unfold text_printer_around_body at h
 refine AW.kr [0, 1] [0, 1, 2, 3] ?_
 refine AW.kr [0, 1, 2] [0, 1, 3, 6] ?_
 apply bE h; intro r1 hx2 h
 have hc := nx (text_printer_put_ok (h := hx2))
 refine callK_grow [0] 1 hc (by simp only [go_sem, reduceEqDiff, reduceAdd, reduceSub, reduceMul, reduceLeDiff, reduceLT, Nat.reduceBEq, reduceIte] <;> rfl) (by simp) (by simp) (by simp only [go_sem, reduceEqDiff, reduceAdd, reduceSub, reduceMul, reduceLeDiff, reduceLT, Nat.reduceBEq, reduceIte]) ?_
 refine ns ?_
 refine AW.kr [0, 6, 2] [0, 3, 6] ?_
 apply bE h; intro r3 hx4 h
 have hc := nx (hself30 _ _ hx4)
 refine callK_grow [0] 1 hc (by simp only [go_sem, reduceEqDiff, reduceAdd, reduceSub, reduceMul, reduceLeDiff, reduceLT, Nat.reduceBEq, reduceIte] <;> rfl) (by simp) (by simp) (by simp only [go_sem, reduceEqDiff, reduceAdd, reduceSub, reduceMul, reduceLeDiff, reduceLT, Nat.reduceBEq, reduceIte]) ?_
 refine ns ?_
 refine AW.ks [0, 5] [0, 3] ?_
 refine AW.rp ?_
 apply bE h; intro r5 hx6 h
 have hc := nx (text_printer_put_ok (h := hx6))
 refine callK_grow [0] 1 hc (by simp only [go_sem, reduceEqDiff, reduceAdd, reduceSub, reduceMul, reduceLeDiff, reduceLT, Nat.reduceBEq, reduceIte] <;> rfl) (by simp) (by simp) (by simp only [go_sem, reduceEqDiff, reduceAdd, reduceSub, reduceMul, reduceLeDiff, reduceLT, Nat.reduceBEq, reduceIte]) ?_
 refine ns ?_
 cases h; refine nz ?_; refine EndM.mk 5 (by decide) (by simp only [go_sem, reduceEqDiff, reduceAdd, reduceSub, reduceMul, reduceLeDiff, reduceLT, Nat.reduceBEq, reduceIte]) (ns ?_); exact ⟨.same _, ⟨⟨.same _, trivial⟩, trivial⟩⟩
/-! ### (*isochrone/text.printer).symbol -/
def text_printer_symbol_body (K : Nat) (self30 : (Text_printerA × NodeA) → Option Text_printerA) (self62 : (Text_printerA × NodeA) → Option Text_printerA) (self63 : (Text_printerA × NodeA) → Option Text_printerA) (self64 : (Text_printerA × NodeA) → Option Text_printerA) (self87 : (Text_printerA × ByteArray × NodeA × ByteArray) → Option Text_printerA) (self88 : (Text_printerA × NodeA) → Option Text_printerA) (self90 : (Text_printerA × NodeA) → Option Text_printerA) (p0 : Text_printerA) (p1 : NodeA) : Option Text_printerA := (text_printer_put K p0 [p1.name, (⟨#[40]⟩ : ByteArray)]).bind fun r1 =>
 ((
  if (decide ((0 : Int) < (p1.kids.length : Int))) then
   (idx p1.kids (0 : Int)).bind fun x6 =>
   (self30 (r1, x6)).bind fun r8 =>
   some r8.b
  else
   some r1.b) : Option (Option (List Int))).bind (fun v3_0 =>
 (text_printer_put K (Text_printerA.mk v3_0) [(⟨#[41]⟩ : ByteArray)]).bind fun r10 =>
 some r10)
set_option maxHeartbeats 4000000 in
theorem text_printer_symbol_step (K : Nat) (self30 : (Text_printerA × NodeA) → Option Text_printerA) (self62 : (Text_printerA × NodeA) → Option Text_printerA) (self63 : (Text_printerA × NodeA) → Option Text_printerA) (self64 : (Text_printerA × NodeA) → Option Text_printerA) (self87 : (Text_printerA × ByteArray × NodeA × ByteArray) → Option Text_printerA) (self88 : (Text_printerA × NodeA) → Option Text_printerA) (self90 : (Text_printerA × NodeA) → Option Text_printerA) (hself30 : ∀ (q : Text_printerA × NodeA) (r : Text_printerA), self30 q = some r → Cm Tryz.prog 30 [.ptr 0 1 0 0, aggV q.2.enc] 1 ([some ⟨1, [[gV 1 1 q.1.b]]⟩] ++ [gO (fun x : Int => [D.val (.int .u8 x)]) 1 q.1.b]) (.tup []) ([some ⟨1, [[gV 1 1 r.b]]⟩] ++ [gO (fun x : Int => [D.val (.int .u8 x)]) 1 r.b])) (hself62 : ∀ (q : Text_printerA × NodeA) (r : Text_printerA), self62 q = some r → Cm Tryz.prog 62 [.ptr 0 1 0 0, aggV q.2.enc] 1 ([some ⟨1, [[gV 1 1 q.1.b]]⟩] ++ [gO (fun x : Int => [D.val (.int .u8 x)]) 1 q.1.b]) (.tup []) ([some ⟨1, [[gV 1 1 r.b]]⟩] ++ [gO (fun x : Int => [D.val (.int .u8 x)]) 1 r.b])) (hself63 : ∀ (q : Text_printerA × NodeA) (r : Text_printerA), self63 q = some r → Cm Tryz.prog 63 [.ptr 0 1 0 0, aggV q.2.enc] 1 ([some ⟨1, [[gV 1 1 q.1.b]]⟩] ++ [gO (fun x : Int => [D.val (.int .u8 x)]) 1 q.1.b]) (.tup []) ([some ⟨1, [[gV 1 1 r.b]]⟩] ++ [gO (fun x : Int => [D.val (.int .u8 x)]) 1 r.b])) (hself64 : ∀ (q : Text_printerA × NodeA) (r : Text_printerA), self64 q = some r → Cm Tryz.prog 64 [.ptr 0 1 0 0, aggV q.2.enc] 1 ([some ⟨1, [[gV 1 1 q.1.b]]⟩] ++ [gO (fun x : Int => [D.val (.int .u8 x)]) 1 q.1.b]) (.tup []) ([some ⟨1, [[gV 1 1 r.b]]⟩] ++ [gO (fun x : Int => [D.val (.int .u8 x)]) 1 r.b])) (hself87 : ∀ (q : Text_printerA × ByteArray × NodeA × ByteArray) (r : Text_printerA), self87 q = some r → Cm Tryz.prog 87 [.ptr 0 1 0 0, .d (.val (.string q.2.1)), aggV q.2.2.1.enc, .d (.val (.string q.2.2.2))] 1 ([some ⟨1, [[gV 1 1 q.1.b]]⟩] ++ [gO (fun x : Int => [D.val (.int .u8 x)]) 1 q.1.b]) (.tup []) ([some ⟨1, [[gV 1 1 r.b]]⟩] ++ [gO (fun x : Int => [D.val (.int .u8 x)]) 1 r.b])) (hself88 : ∀ (q : Text_printerA × NodeA) (r : Text_printerA), self88 q = some r → Cm Tryz.prog 88 [.ptr 0 1 0 0, aggV q.2.enc] 1 ([some ⟨1, [[gV 1 1 q.1.b]]⟩] ++ [gO (fun x : Int => [D.val (.int .u8 x)]) 1 q.1.b]) (.tup []) ([some ⟨1, [[gV 1 1 r.b]]⟩] ++ [gO (fun x : Int => [D.val (.int .u8 x)]) 1 r.b])) (hself90 : ∀ (q : Text_printerA × NodeA) (r : Text_printerA), self90 q = some r → Cm Tryz.prog 90 [.ptr 0 1 0 0, aggV q.2.enc] 1 ([some ⟨1, [[gV 1 1 q.1.b]]⟩] ++ [gO (fun x : Int => [D.val (.int .u8 x)]) 1 q.1.b]) (.tup []) ([some ⟨1, [[gV 1 1 r.b]]⟩] ++ [gO (fun x : Int => [D.val (.int .u8 x)]) 1 r.b])) (p0 : Text_printerA) (p1 : NodeA) (r : Text_printerA) (h : text_printer_symbol_body K self30 self62 self63 self64 self87 self88 self90 p0 p1 = some r) : Cm Tryz.prog 88 [.ptr 0 1 0 0, aggV p1.enc] 1 ([some ⟨1, [[gV 1 1 p0.b]]⟩] ++ [gO (fun x : Int => [D.val (.int .u8 x)]) 1 p0.b]) (.tup []) ([some ⟨1, [[gV 1 1 r.b]]⟩] ++ [gO (fun x : Int => [D.val (.int .u8 x)]) 1 r.b]) := by
 refine Cm.ofA mixed Tryz.func88 rfl Tryz.call88 Tryz.ntmps88 Tryz.results88 (by simp) rfl rfl (by simp only [go_sem, reduceEqDiff, reduceAdd, reduceSub, reduceMul, reduceLeDiff, reduceLT, Nat.reduceBEq, reduceIte, List.length_cons]) (by simp only [go_sem, reduceEqDiff, reduceAdd, reduceSub, reduceMul, reduceLeDiff, reduceLT, Nat.reduceBEq, reduceIte]) (by simp only [go_sem, reduceEqDiff, reduceAdd, reduceSub, reduceMul, reduceLeDiff, reduceLT, Nat.reduceBEq, reduceIte]) (by simp only [go_sem, reduceEqDiff, reduceAdd, reduceSub, reduceMul, reduceLeDiff, reduceLT, Nat.reduceBEq, reduceIte]) datO_g datO_g fun hfit => ?_
 unfold text_printer_symbol_body at h
 refine AW.kr [0, 1] [0, 1] ?_
 refine AW.kr [0, 1, 2] [0, 3] ?_
 apply bE h; intro r1 hx2 h
 have hc := nx (text_printer_put_ok (h := hx2))
 refine callK_grow [0] 1 hc (by simp only [go_sem, reduceEqDiff, reduceAdd, reduceSub, reduceMul, reduceLeDiff, reduceLT, Nat.reduceBEq, reduceIte] <;> rfl) (by simp) (by simp) (by simp only [go_sem, reduceEqDiff, reduceAdd, reduceSub, reduceMul, reduceLeDiff, reduceLT, Nat.reduceBEq, reduceIte]) ?_
 refine ns ?_
 refine AW.ks [0, 7, 2] [0, 3] ?_
 refine AW.jn h (fun v3_0 => [(0, .ptr 0 1 0 0)]) (fun v3_0 => [vE1 (gV 1 1 v3_0), gO (fun x : Int => [D.val (.int .u8 x)]) 1 v3_0]) (fun oJ4 h => ?_) fun v3_0 h => ?_
 ·refine AW.ro ?_
  refine AW.ks [0, 1, 2] [0, 3, 12] ?_
  refine AW.tk h (fun hb5 h => ?_) fun hb5 h => ?_
  ·refine AW.rp ?_
   refine bx h fun x6 h0 h1 h => ?_
   apply bE h; intro r8 hx9 h
   have hc := nx (hself30 _ _ hx9)
   refine callK_grow [0] 1 hc (by simp only [go_sem, reduceEqDiff, reduceAdd, reduceSub, reduceMul, reduceLeDiff, reduceLT, Nat.reduceBEq, reduceIte] <;> rfl) (by simp) (by simp) (by simp only [go_sem, reduceEqDiff, reduceAdd, reduceSub, reduceMul, reduceLeDiff, reduceLT, Nat.reduceBEq, reduceIte]) ?_
   refine ns ?_
   exact ja [0, 8] h
  exact ja [0, 1] h
 refine AW.rp ?_
 apply bE h; intro r10 hx11 h
 have hc := nx (text_printer_put_ok (h := hx11))
 refine callK_grow [0] 1 hc (by simp only [go_sem, reduceEqDiff, reduceAdd, reduceSub, reduceMul, reduceLeDiff, reduceLT, Nat.reduceBEq, reduceIte] <;> rfl) (by simp) (by simp) (by simp only [go_sem, reduceEqDiff, reduceAdd, reduceSub, reduceMul, reduceLeDiff, reduceLT, Nat.reduceBEq, reduceIte]) ?_
 refine ns ?_
 cases h; refine nz ?_; refine EndM.mk 4 (by decide) (by simp only [go_sem, reduceEqDiff, reduceAdd, reduceSub, reduceMul, reduceLeDiff, reduceLT, Nat.reduceBEq, reduceIte]) (ns ?_); exact ⟨.same _, ⟨⟨.same _, trivial⟩, trivial⟩⟩
/-! ### (*isochrone/text.printer).flow -/
def text_printer_flow_body (K : Nat) (self30 : (Text_printerA × NodeA) → Option Text_printerA) (self62 : (Text_printerA × NodeA) → Option Text_printerA) (self63 : (Text_printerA × NodeA) → Option Text_printerA) (self64 : (Text_printerA × NodeA) → Option Text_printerA) (self87 : (Text_printerA × ByteArray × NodeA × ByteArray) → Option Text_printerA) (self88 : (Text_printerA × NodeA) → Option Text_printerA) (self90 : (Text_printerA × NodeA) → Option Text_printerA) (p0 : Text_printerA) (p1 : NodeA) : Option Text_printerA := (text_printer_put K p0 [(⟨#[123]⟩ : ByteArray)]).bind fun r1 =>
 (cutL p1.kids none (some (IntKind.wrap .i64 ((p1.kids.length : Int) - (1 : Int))))).bind fun s3 =>
 ((iter (S := Int × (Option (List Int))) (R := (Option (List Int))) K (fun again (i5_0, i5_1) =>
  if (decide (i5_0 < (s3.length : Int))) then
   ((
    (idx s3 i5_0).bind fun x12 =>
    ((
     if (decide ((0 : Int) < i5_0)) then
      (text_printer_put K (Text_printerA.mk i5_1) [(⟨#[44, 32]⟩ : ByteArray)]).bind fun r17 =>
      some r17.b
     else
      some i5_1) : Option (Option (List Int))).bind (fun v14_0 =>
    if (x12.op == (56 : Int)) then
     (text_printer_put K (Text_printerA.mk v14_0) [x12.name, (⟨#[46, 46]⟩ : ByteArray)]).bind fun r20 =>
     some r20.b
    else
     (catO x12.name (⟨#[39, 32, 61, 32]⟩ : ByteArray)).bind fun s22 =>
     (idx x12.kids (0 : Int)).bind fun x24 =>
     (self87 ((Text_printerA.mk v14_0), s22, x24, (⟨#[]⟩ : ByteArray))).bind fun r26 =>
     some r26.b)) : Option (Option (List Int))).bind (fun v10_0 =>
   again (IntKind.wrap .i64 (i5_0 + (1 : Int)), v10_0))
  else
   some i5_1) ((0 : Int), r1.b)) : Option (Option (List Int))).bind (fun e6_0 =>
 (idx p1.kids (IntKind.wrap .i64 ((p1.kids.length : Int) - (1 : Int)))).bind fun x28 =>
 (self87 ((Text_printerA.mk e6_0), (⟨#[32, 38, 32]⟩ : ByteArray), x28, (⟨#[125]⟩ : ByteArray))).bind fun r30 =>
 some r30)
set_option maxHeartbeats 4000000 in
theorem text_printer_flow_step (K : Nat) (self30 : (Text_printerA × NodeA) → Option Text_printerA) (self62 : (Text_printerA × NodeA) → Option Text_printerA) (self63 : (Text_printerA × NodeA) → Option Text_printerA) (self64 : (Text_printerA × NodeA) → Option Text_printerA) (self87 : (Text_printerA × ByteArray × NodeA × ByteArray) → Option Text_printerA) (self88 : (Text_printerA × NodeA) → Option Text_printerA) (self90 : (Text_printerA × NodeA) → Option Text_printerA) (hself30 : ∀ (q : Text_printerA × NodeA) (r : Text_printerA), self30 q = some r → Cm Tryz.prog 30 [.ptr 0 1 0 0, aggV q.2.enc] 1 ([some ⟨1, [[gV 1 1 q.1.b]]⟩] ++ [gO (fun x : Int => [D.val (.int .u8 x)]) 1 q.1.b]) (.tup []) ([some ⟨1, [[gV 1 1 r.b]]⟩] ++ [gO (fun x : Int => [D.val (.int .u8 x)]) 1 r.b])) (hself62 : ∀ (q : Text_printerA × NodeA) (r : Text_printerA), self62 q = some r → Cm Tryz.prog 62 [.ptr 0 1 0 0, aggV q.2.enc] 1 ([some ⟨1, [[gV 1 1 q.1.b]]⟩] ++ [gO (fun x : Int => [D.val (.int .u8 x)]) 1 q.1.b]) (.tup []) ([some ⟨1, [[gV 1 1 r.b]]⟩] ++ [gO (fun x : Int => [D.val (.int .u8 x)]) 1 r.b])) (hself63 : ∀ (q : Text_printerA × NodeA) (r : Text_printerA), self63 q = some r → Cm Tryz.prog 63 [.ptr 0 1 0 0, aggV q.2.enc] 1 ([some ⟨1, [[gV 1 1 q.1.b]]⟩] ++ [gO (fun x : Int => [D.val (.int .u8 x)]) 1 q.1.b]) (.tup []) ([some ⟨1, [[gV 1 1 r.b]]⟩] ++ [gO (fun x : Int => [D.val (.int .u8 x)]) 1 r.b])) (hself64 : ∀ (q : Text_printerA × NodeA) (r : Text_printerA), self64 q = some r → Cm Tryz.prog 64 [.ptr 0 1 0 0, aggV q.2.enc] 1 ([some ⟨1, [[gV 1 1 q.1.b]]⟩] ++ [gO (fun x : Int => [D.val (.int .u8 x)]) 1 q.1.b]) (.tup []) ([some ⟨1, [[gV 1 1 r.b]]⟩] ++ [gO (fun x : Int => [D.val (.int .u8 x)]) 1 r.b])) (hself87 : ∀ (q : Text_printerA × ByteArray × NodeA × ByteArray) (r : Text_printerA), self87 q = some r → Cm Tryz.prog 87 [.ptr 0 1 0 0, .d (.val (.string q.2.1)), aggV q.2.2.1.enc, .d (.val (.string q.2.2.2))] 1 ([some ⟨1, [[gV 1 1 q.1.b]]⟩] ++ [gO (fun x : Int => [D.val (.int .u8 x)]) 1 q.1.b]) (.tup []) ([some ⟨1, [[gV 1 1 r.b]]⟩] ++ [gO (fun x : Int => [D.val (.int .u8 x)]) 1 r.b])) (hself88 : ∀ (q : Text_printerA × NodeA) (r : Text_printerA), self88 q = some r → Cm Tryz.prog 88 [.ptr 0 1 0 0, aggV q.2.enc] 1 ([some ⟨1, [[gV 1 1 q.1.b]]⟩] ++ [gO (fun x : Int => [D.val (.int .u8 x)]) 1 q.1.b]) (.tup []) ([some ⟨1, [[gV 1 1 r.b]]⟩] ++ [gO (fun x : Int => [D.val (.int .u8 x)]) 1 r.b])) (hself90 : ∀ (q : Text_printerA × NodeA) (r : Text_printerA), self90 q = some r → Cm Tryz.prog 90 [.ptr 0 1 0 0, aggV q.2.enc] 1 ([some ⟨1, [[gV 1 1 q.1.b]]⟩] ++ [gO (fun x : Int => [D.val (.int .u8 x)]) 1 q.1.b]) (.tup []) ([some ⟨1, [[gV 1 1 r.b]]⟩] ++ [gO (fun x : Int => [D.val (.int .u8 x)]) 1 r.b])) (p0 : Text_printerA) (p1 : NodeA) (r : Text_printerA) (h : text_printer_flow_body K self30 self62 self63 self64 self87 self88 self90 p0 p1 = some r) : Cm Tryz.prog 90 [.ptr 0 1 0 0, aggV p1.enc] 1 ([some ⟨1, [[gV 1 1 p0.b]]⟩] ++ [gO (fun x : Int => [D.val (.int .u8 x)]) 1 p0.b]) (.tup []) ([some ⟨1, [[gV 1 1 r.b]]⟩] ++ [gO (fun x : Int => [D.val (.int .u8 x)]) 1 r.b]) := by
 refine Cm.ofA mixed Tryz.func90 rfl Tryz.call90 Tryz.ntmps90 Tryz.results90 (by simp) rfl rfl (by simp only [go_sem, reduceEqDiff, reduceAdd, reduceSub, reduceMul, reduceLeDiff, reduceLT, Nat.reduceBEq, reduceIte, List.length_cons]) (by simp only [go_sem, reduceEqDiff, reduceAdd, reduceSub, reduceMul, reduceLeDiff, reduceLT, Nat.reduceBEq, reduceIte]) (by simp only [go_sem, reduceEqDiff, reduceAdd, reduceSub, reduceMul, reduceLeDiff, reduceLT, Nat.reduceBEq, reduceIte]) (by simp only [go_sem, reduceEqDiff, reduceAdd, reduceSub, reduceMul, reduceLeDiff, reduceLT, Nat.reduceBEq, reduceIte]) datO_g datO_g fun hfit => ?_
 unfold text_printer_flow_body at h
 refine AW.cu [0, 1] [(0, .ptr 0 1 0 0), (1, .agg [.d (.val (.int .i64 p1.op)), .d (.val (.string p1.name)), .d (.val (.bool p1.num.neg)), .d (slD u32V p1.num.num), .d (slD u32V p1.num.den), .d (slD NodeA.enc p1.kids)])] [some ⟨1, [[gV 1 1 p0.b]]⟩, gO (fun x : Int => [D.val (.int .u8 x)]) 1 p0.b] ?_
 refine AW.op mixed ?_
 refine AW.cu [0, 1, 2] [(0, .ptr 0 1 0 0), (3, .ptr 2 6 0 0)] [some ⟨1, [[gV 1 1 p0.b]]⟩, gO (fun x : Int => [D.val (.int .u8 x)]) 1 p0.b, some ⟨6, [[.d (.val (.int .i64 p1.op)), .d (.val (.string p1.name)), .d (.val (.bool p1.num.neg)), .d (slD u32V p1.num.num), .d (slD u32V p1.num.den), .d (slD NodeA.enc p1.kids)]]⟩] ?_
 refine AW.op mixed ?_
 apply obindE h; intro r1 hx2 h
 have hc := nx (text_printer_put_ok (h := hx2))
 refine callK_grow [0] 1 hc (by simp only [go_sem, reduceEqDiff, reduceAdd, reduceSub, reduceMul, reduceLeDiff, reduceLT, Nat.reduceBEq, reduceIte] <;> rfl) (by simp) (by simp) (by simp only [go_sem, reduceEqDiff, reduceAdd, reduceSub, reduceMul, reduceLeDiff, reduceLT, Nat.reduceBEq, reduceIte]) ?_
 try simp only [go_sem, reduceEqDiff, reduceAdd, reduceSub, reduceMul, reduceLeDiff, reduceLT, Nat.reduceBEq, reduceIte]
 refine AW.cu [0, 5, 2] [(0, .ptr 0 1 0 0), (3, .ptr 2 6 0 0)] [some ⟨1, [[gV 1 1 r1.b]]⟩, gO (fun x : Int => [D.val (.int .u8 x)]) 1 r1.b, some ⟨6, [[.d (.val (.int .i64 p1.op)), .d (.val (.string p1.name)), .d (.val (.bool p1.num.neg)), .d (slD u32V p1.num.num), .d (slD u32V p1.num.den), .d (slD NodeA.enc p1.kids)]]⟩] ?_
 refine AW.op mixed ?_
 refine AW.cu [0, 1, 2] [(0, .ptr 0 1 0 0), (3, .ptr 2 6 0 0), (4, .d (.val (.int .i64 (IntKind.wrap .i64 ((p1.kids.length : Int) - (1 : Int))))))] [some ⟨1, [[gV 1 1 r1.b]]⟩, gO (fun x : Int => [D.val (.int .u8 x)]) 1 r1.b, some ⟨6, [[.d (.val (.int .i64 p1.op)), .d (.val (.string p1.name)), .d (.val (.bool p1.num.neg)), .d (slD u32V p1.num.num), .d (slD u32V p1.num.den), .d (slD NodeA.enc p1.kids)]]⟩] ?_
 refine AW.one ?_
 refine AW.one ?_
 refine AW.reg mixed (by kernel_rfl) ?_
 apply obindE h; intro s3 hx4 h
 try simp only [go_sem, reduceEqDiff, reduceAdd, reduceSub, reduceMul, reduceLeDiff, reduceLT, Nat.reduceBEq, reduceIte, hx4]
 refine AW.cut [0, 1, 2] [(0, .ptr 0 1 0 0), (3, .ptr 2 6 0 0), (4, .d (.val (.int .i64 (IntKind.wrap .i64 ((p1.kids.length : Int) - (1 : Int)))))), (17, .d (slD NodeA.enc s3)), (18, .d (.val (.int .i64 (s3.length : Int)))), (19, .d (.val (.int .i64 (0 : Int))))] [some ⟨1, [[gV 1 1 r1.b]]⟩, gO (fun x : Int => [D.val (.int .u8 x)]) 1 r1.b, some ⟨6, [[.d (.val (.int .i64 p1.op)), .d (.val (.string p1.name)), .d (.val (.bool p1.num.neg)), .d (slD u32V p1.num.num), .d (slD u32V p1.num.den), .d (slD NodeA.enc p1.kids)]]⟩] (by simp only [go_sem, reduceEqDiff, reduceAdd, reduceSub, reduceMul, reduceLeDiff, reduceLT, Nat.reduceBEq, reduceIte, hx4]) ?_
 refine obindE h fun oJ8 h hJ8 => ?_
 refine AW.join (S := (Option (List Int))) (fun e6_0 => [(0, .ptr 0 1 0 0), (3, .ptr 1 6 0 0), (4, .d (.val (.int .i64 (IntKind.wrap .i64 ((p1.kids.length : Int) - (1 : Int))))))]) (fun e6_0 => [some ⟨1, [[gV 2 1 e6_0]]⟩, some ⟨6, [[.d (.val (.int .i64 p1.op)), .d (.val (.string p1.name)), .d (.val (.bool p1.num.neg)), .d (slD u32V p1.num.num), .d (slD u32V p1.num.den), .d (slD NodeA.enc p1.kids)]]⟩, gO (fun x : Int => [D.val (.int .u8 x)]) 1 e6_0]) (fun x => x = oJ8) ?_ ?_
 ·refine AW.block ?_
  refine AW.iter (S := Int × (Option (List Int))) (fun (i5_0, i5_1) => [(0, .ptr 0 1 0 0), (3, .ptr 1 6 0 0), (4, .d (.val (.int .i64 (IntKind.wrap .i64 ((p1.kids.length : Int) - (1 : Int)))))), (17, .d (slD NodeA.enc s3)), (18, .d (.val (.int .i64 (s3.length : Int)))), (19, .d (.val (.int .i64 i5_0)))]) (fun (i5_0, i5_1) => [some ⟨1, [[gV 2 1 i5_1]]⟩, some ⟨6, [[.d (.val (.int .i64 p1.op)), .d (.val (.string p1.name)), .d (.val (.bool p1.num.neg)), .d (slD u32V p1.num.num), .d (slD u32V p1.num.den), .d (slD NodeA.enc p1.kids)]]⟩, gO (fun x : Int => [D.val (.int .u8 x)]) 1 i5_1]) [0, 2, 1] h (by simp only [go_sem, reduceEqDiff, reduceAdd, reduceSub, reduceMul, reduceLeDiff, reduceLT, Nat.reduceBEq, reduceIte]) ?_
  rintro again ⟨i5_0, i5_1⟩ h
  try dsimp only at h
  refine AW.op mixed ?_
  refine AW.cu [0, 2, 1] [(0, .ptr 0 1 0 0), (3, .ptr 2 6 0 0), (4, .d (.val (.int .i64 (IntKind.wrap .i64 ((p1.kids.length : Int) - (1 : Int)))))), (17, .d (slD NodeA.enc s3)), (18, .d (.val (.int .i64 (s3.length : Int)))), (19, .d (.val (.int .i64 i5_0))), (20, .d (.val (.bool (decide (i5_0 < (s3.length : Int))))))] [some ⟨1, [[gV 1 1 i5_1]]⟩, gO (fun x : Int => [D.val (.int .u8 x)]) 1 i5_1, some ⟨6, [[.d (.val (.int .i64 p1.op)), .d (.val (.string p1.name)), .d (.val (.bool p1.num.neg)), .d (slD u32V p1.num.num), .d (slD u32V p1.num.den), .d (slD NodeA.enc p1.kids)]]⟩] ?_
  refine AW.one ?_
  refine AW.ts (decide (i5_0 < (s3.length : Int))) (fun hb9 => ?_) (fun hb9 => ?_)
  ·have h := ifT hb9 h
   refine AW.sk ?_
   refine AW.cu [0, 1, 2] [(0, .ptr 0 1 0 0), (3, .ptr 2 6 0 0), (4, .d (.val (.int .i64 (IntKind.wrap .i64 ((p1.kids.length : Int) - (1 : Int)))))), (17, .d (slD NodeA.enc s3)), (18, .d (.val (.int .i64 (s3.length : Int)))), (19, .d (.val (.int .i64 i5_0)))] [some ⟨1, [[gV 1 1 i5_1]]⟩, gO (fun x : Int => [D.val (.int .u8 x)]) 1 i5_1, some ⟨6, [[.d (.val (.int .i64 p1.op)), .d (.val (.string p1.name)), .d (.val (.bool p1.num.neg)), .d (slD u32V p1.num.num), .d (slD u32V p1.num.den), .d (slD NodeA.enc p1.kids)]]⟩] ?_
   refine AW.one ?_
   refine obindE h fun oJ11 h hJ11 => ?_
   refine AW.join (S := (Option (List Int))) (fun v10_0 => [(0, .ptr 0 1 0 0), (3, .ptr 1 6 0 0), (4, .d (.val (.int .i64 (IntKind.wrap .i64 ((p1.kids.length : Int) - (1 : Int)))))), (17, .d (slD NodeA.enc s3)), (18, .d (.val (.int .i64 (s3.length : Int)))), (19, .d (.val (.int .i64 i5_0)))]) (fun v10_0 => [some ⟨1, [[gV 2 1 v10_0]]⟩, some ⟨6, [[.d (.val (.int .i64 p1.op)), .d (.val (.string p1.name)), .d (.val (.bool p1.num.neg)), .d (slD u32V p1.num.num), .d (slD u32V p1.num.den), .d (slD NodeA.enc p1.kids)]]⟩, gO (fun x : Int => [D.val (.int .u8 x)]) 1 v10_0]) (fun x => x = oJ11) ?_ ?_
   ·skip
    refine AW.block ?_
    refine AW.one ?_
    refine AW.reg mixed (by kernel_rfl) ?_
    apply obindE h; intro x12 hx13 h
    try simp only [go_sem, reduceEqDiff, reduceAdd, reduceSub, reduceMul, reduceLeDiff, reduceLT, Nat.reduceBEq, reduceIte, (idx_some hx13).1, (idx_some hx13).2]
    refine AW.cut [0, 1, 2, 6] [(0, .ptr 0 1 0 0), (3, .ptr 2 6 0 0), (4, .d (.val (.int .i64 (IntKind.wrap .i64 ((p1.kids.length : Int) - (1 : Int)))))), (5, .d (.val (.int .i64 i5_0))), (6, .ptr 3 6 0 0), (17, .d (slD NodeA.enc s3)), (18, .d (.val (.int .i64 (s3.length : Int)))), (19, .d (.val (.int .i64 i5_0)))] [some ⟨1, [[gV 1 1 i5_1]]⟩, gO (fun x : Int => [D.val (.int .u8 x)]) 1 i5_1, some ⟨6, [[.d (.val (.int .i64 p1.op)), .d (.val (.string p1.name)), .d (.val (.bool p1.num.neg)), .d (slD u32V p1.num.num), .d (slD u32V p1.num.den), .d (slD NodeA.enc p1.kids)]]⟩, some ⟨6, [[.d (.val (.int .i64 x12.op)), .d (.val (.string x12.name)), .d (.val (.bool x12.num.neg)), .d (slD u32V x12.num.num), .d (slD u32V x12.num.den), .d (slD NodeA.enc x12.kids)]]⟩] (by simp only [go_sem, reduceEqDiff, reduceAdd, reduceSub, reduceMul, reduceLeDiff, reduceLT, Nat.reduceBEq, reduceIte, (idx_some hx13).1, (idx_some hx13).2]) ?_
    refine AW.one ?_
    refine obindE h fun oJ15 h hJ15 => ?_
    refine AW.join (S := (Option (List Int))) (fun v14_0 => [(0, .ptr 0 1 0 0), (3, .ptr 1 6 0 0), (4, .d (.val (.int .i64 (IntKind.wrap .i64 ((p1.kids.length : Int) - (1 : Int)))))), (6, .ptr 2 6 0 0), (17, .d (slD NodeA.enc s3)), (18, .d (.val (.int .i64 (s3.length : Int)))), (19, .d (.val (.int .i64 i5_0)))]) (fun v14_0 => [some ⟨1, [[gV 3 1 v14_0]]⟩, some ⟨6, [[.d (.val (.int .i64 p1.op)), .d (.val (.string p1.name)), .d (.val (.bool p1.num.neg)), .d (slD u32V p1.num.num), .d (slD u32V p1.num.den), .d (slD NodeA.enc p1.kids)]]⟩, some ⟨6, [[.d (.val (.int .i64 x12.op)), .d (.val (.string x12.name)), .d (.val (.bool x12.num.neg)), .d (slD u32V x12.num.num), .d (slD u32V x12.num.den), .d (slD NodeA.enc x12.kids)]]⟩, gO (fun x : Int => [D.val (.int .u8 x)]) 1 v14_0]) (fun x => x = oJ15) ?_ ?_
    ·skip
     refine AW.op mixed ?_
     refine AW.cu [0, 1, 2, 3] [(0, .ptr 0 1 0 0), (3, .ptr 2 6 0 0), (4, .d (.val (.int .i64 (IntKind.wrap .i64 ((p1.kids.length : Int) - (1 : Int)))))), (6, .ptr 3 6 0 0), (17, .d (slD NodeA.enc s3)), (18, .d (.val (.int .i64 (s3.length : Int)))), (19, .d (.val (.int .i64 i5_0))), (25, .d (.val (.bool (decide ((0 : Int) < i5_0)))))] [some ⟨1, [[gV 1 1 i5_1]]⟩, gO (fun x : Int => [D.val (.int .u8 x)]) 1 i5_1, some ⟨6, [[.d (.val (.int .i64 p1.op)), .d (.val (.string p1.name)), .d (.val (.bool p1.num.neg)), .d (slD u32V p1.num.num), .d (slD u32V p1.num.den), .d (slD NodeA.enc p1.kids)]]⟩, some ⟨6, [[.d (.val (.int .i64 x12.op)), .d (.val (.string x12.name)), .d (.val (.bool x12.num.neg)), .d (slD u32V x12.num.num), .d (slD u32V x12.num.den), .d (slD NodeA.enc x12.kids)]]⟩] ?_
     refine AW.ts (decide ((0 : Int) < i5_0)) (fun hb16 => ?_) (fun hb16 => ?_)
     ·have h := ifT hb16 h
      refine AW.rg mixed ?_
      apply obindE h; intro r17 hx18 h
      have hc := nx (text_printer_put_ok (h := hx18))
      refine callK_grow [0] 1 hc (by simp only [go_sem, reduceEqDiff, reduceAdd, reduceSub, reduceMul, reduceLeDiff, reduceLT, Nat.reduceBEq, reduceIte] <;> rfl) (by simp) (by simp) (by simp only [go_sem, reduceEqDiff, reduceAdd, reduceSub, reduceMul, reduceLeDiff, reduceLT, Nat.reduceBEq, reduceIte]) ?_
      try simp only [go_sem, reduceEqDiff, reduceAdd, reduceSub, reduceMul, reduceLeDiff, reduceLT, Nat.reduceBEq, reduceIte]
      exact JoinQ.ar r17.b [0, 2, 3, 6] (Option.some.inj h)
     have h := ifF hb16 h
     refine AW.sk ?_
     exact JoinQ.ar i5_1 [0, 2, 3, 1] (Option.some.inj h)
    rintro v14_0 rfl
    have h := hJ15
    try dsimp only [Out.fin] at h
    refine nz ?_
    refine AW.one ?_
    refine AW.op mixed ?_
    refine AW.cu [0, 3, 1, 2] [(0, .ptr 0 1 0 0), (3, .ptr 2 6 0 0), (4, .d (.val (.int .i64 (IntKind.wrap .i64 ((p1.kids.length : Int) - (1 : Int)))))), (6, .ptr 3 6 0 0), (17, .d (slD NodeA.enc s3)), (18, .d (.val (.int .i64 (s3.length : Int)))), (19, .d (.val (.int .i64 i5_0))), (31, .d (.val (.bool (x12.op == (56 : Int)))))] [some ⟨1, [[gV 1 1 v14_0]]⟩, gO (fun x : Int => [D.val (.int .u8 x)]) 1 v14_0, some ⟨6, [[.d (.val (.int .i64 p1.op)), .d (.val (.string p1.name)), .d (.val (.bool p1.num.neg)), .d (slD u32V p1.num.num), .d (slD u32V p1.num.den), .d (slD NodeA.enc p1.kids)]]⟩, some ⟨6, [[.d (.val (.int .i64 x12.op)), .d (.val (.string x12.name)), .d (.val (.bool x12.num.neg)), .d (slD u32V x12.num.num), .d (slD u32V x12.num.den), .d (slD NodeA.enc x12.kids)]]⟩] ?_
    refine AW.ts (x12.op == (56 : Int)) (fun hb19 => ?_) (fun hb19 => ?_)
    ·have h := ifT hb19 h
     refine AW.op mixed ?_
     apply obindE h; intro r20 hx21 h
     have hc := nx (text_printer_put_ok (h := hx21))
     refine callK_grow [0] 1 hc (by simp only [go_sem, reduceEqDiff, reduceAdd, reduceSub, reduceMul, reduceLeDiff, reduceLT, Nat.reduceBEq, reduceIte] <;> rfl) (by simp) (by simp) (by simp only [go_sem, reduceEqDiff, reduceAdd, reduceSub, reduceMul, reduceLeDiff, reduceLT, Nat.reduceBEq, reduceIte]) ?_
     try simp only [go_sem, reduceEqDiff, reduceAdd, reduceSub, reduceMul, reduceLeDiff, reduceLT, Nat.reduceBEq, reduceIte]
     refine AW.ex ?_
     exact JoinQ.ar r20.b [0, 2, 8] (Option.some.inj h)
    have h := ifF hb19 h
    refine AW.sk ?_
    refine AW.cu [0, 1, 2, 3] [(0, .ptr 0 1 0 0), (3, .ptr 2 6 0 0), (4, .d (.val (.int .i64 (IntKind.wrap .i64 ((p1.kids.length : Int) - (1 : Int)))))), (6, .ptr 3 6 0 0), (17, .d (slD NodeA.enc s3)), (18, .d (.val (.int .i64 (s3.length : Int)))), (19, .d (.val (.int .i64 i5_0)))] [some ⟨1, [[gV 1 1 v14_0]]⟩, gO (fun x : Int => [D.val (.int .u8 x)]) 1 v14_0, some ⟨6, [[.d (.val (.int .i64 p1.op)), .d (.val (.string p1.name)), .d (.val (.bool p1.num.neg)), .d (slD u32V p1.num.num), .d (slD u32V p1.num.den), .d (slD NodeA.enc p1.kids)]]⟩, some ⟨6, [[.d (.val (.int .i64 x12.op)), .d (.val (.string x12.name)), .d (.val (.bool x12.num.neg)), .d (slD u32V x12.num.num), .d (slD u32V x12.num.den), .d (slD NodeA.enc x12.kids)]]⟩] ?_
    refine AW.reg3 mixed (by kernel_rfl) ?_
    try simp only [go_sem, reduceEqDiff, reduceAdd, reduceSub, reduceMul, reduceLeDiff, reduceLT, Nat.reduceBEq, reduceIte]
    apply obindE h; intro s22 hx23 h
    apply obindE h; intro x24 hx25 h
    try simp only [go_sem, reduceEqDiff, reduceAdd, reduceSub, reduceMul, reduceLeDiff, reduceLT, Nat.reduceBEq, reduceIte, bop_cat (P := Tryz.prog) hx23, (idx_some hx25).1, (idx_some hx25).2]
    apply obindE h; intro r26 hx27 h
    have hc := nx (hself87 _ _ hx27)
    refine callK_grow [0] 1 hc (by simp only [go_sem, reduceEqDiff, reduceAdd, reduceSub, reduceMul, reduceLeDiff, reduceLT, Nat.reduceBEq, reduceIte] <;> rfl) (by simp) (by simp) (by simp only [go_sem, reduceEqDiff, reduceAdd, reduceSub, reduceMul, reduceLeDiff, reduceLT, Nat.reduceBEq, reduceIte, bop_cat (P := Tryz.prog) hx23, (idx_some hx25).1, (idx_some hx25).2]) ?_
    try simp only [go_sem, reduceEqDiff, reduceAdd, reduceSub, reduceMul, reduceLeDiff, reduceLT, Nat.reduceBEq, reduceIte, bop_cat (P := Tryz.prog) hx23, (idx_some hx25).1, (idx_some hx25).2]
    refine JoinQ.mk r26.b [0, 2, 12] (Option.some.inj h) (by simp only [go_sem, reduceEqDiff, reduceAdd, reduceSub, reduceMul, reduceLeDiff, reduceLT, Nat.reduceBEq, reduceIte, bop_cat (P := Tryz.prog) hx23, (idx_some hx25).1, (idx_some hx25).2])
   rintro v10_0 rfl
   have h := hJ11
   try dsimp only [Out.fin] at h
   refine nz ?_
   refine AW.rg mixed ?_
   exact NextQ.ar (IntKind.wrap .i64 (i5_0 + (1 : Int)), v10_0) [0, 1, 2] h
  have h := ifF hb9 h
  refine AW.ex ?_
  exact JoinQ.ar i5_1 [0, 2, 1] (Option.some.inj h)
 rintro e6_0 rfl
 have h := hJ8
 try dsimp only [Out.fin] at h
 refine nz ?_
 refine AW.cu [0, 2, 1] [(0, .ptr 0 1 0 0), (3, .ptr 2 6 0 0), (4, .d (.val (.int .i64 (IntKind.wrap .i64 ((p1.kids.length : Int) - (1 : Int))))))] [some ⟨1, [[gV 1 1 e6_0]]⟩, gO (fun x : Int => [D.val (.int .u8 x)]) 1 e6_0, some ⟨6, [[.d (.val (.int .i64 p1.op)), .d (.val (.string p1.name)), .d (.val (.bool p1.num.neg)), .d (slD u32V p1.num.num), .d (slD u32V p1.num.den), .d (slD NodeA.enc p1.kids)]]⟩] ?_
 refine AW.reg mixed (by kernel_rfl) ?_
 apply obindE h; intro x28 hx29 h
 try simp only [go_sem, reduceEqDiff, reduceAdd, reduceSub, reduceMul, reduceLeDiff, reduceLT, Nat.reduceBEq, reduceIte, (idx_some hx29).1, (idx_some hx29).2]
 apply obindE h; intro r30 hx31 h
 have hc := nx (hself87 _ _ hx31)
 refine callK_grow [0] 1 hc (by simp only [go_sem, reduceEqDiff, reduceAdd, reduceSub, reduceMul, reduceLeDiff, reduceLT, Nat.reduceBEq, reduceIte] <;> rfl) (by simp) (by simp) (by simp only [go_sem, reduceEqDiff, reduceAdd, reduceSub, reduceMul, reduceLeDiff, reduceLT, Nat.reduceBEq, reduceIte, (idx_some hx29).1, (idx_some hx29).2]) ?_
 try simp only [go_sem, reduceEqDiff, reduceAdd, reduceSub, reduceMul, reduceLeDiff, reduceLT, Nat.reduceBEq, reduceIte, (idx_some hx29).1, (idx_some hx29).2]
 obtain rfl := Option.some.inj h
 refine nz ?_
 refine EndM.mk 9 (by decide) (by simp only [go_sem, reduceEqDiff, reduceAdd, reduceSub, reduceMul, reduceLeDiff, reduceLT, Nat.reduceBEq, reduceIte]) (ns ?_)
 exact ⟨.same _, ⟨⟨.same _, trivial⟩, trivial⟩⟩
def grp_text_printer_tree (K : Nat) : Nat → ((Text_printerA × NodeA) → Option Text_printerA) × ((Text_printerA × NodeA) → Option Text_printerA) × ((Text_printerA × NodeA) → Option Text_printerA) × ((Text_printerA × NodeA) → Option Text_printerA) × ((Text_printerA × ByteArray × NodeA × ByteArray) → Option Text_printerA) × ((Text_printerA × NodeA) → Option Text_printerA) × ((Text_printerA × NodeA) → Option Text_printerA)
 | 0 => (fun _ => none, fun _ => none, fun _ => none, fun _ => none, fun _ => none, fun _ => none, fun _ => none)
 | k + 1 => (fun q => text_printer_tree_body K (grp_text_printer_tree K k).1 (grp_text_printer_tree K k).2.1 (grp_text_printer_tree K k).2.2.1 (grp_text_printer_tree K k).2.2.2.1 (grp_text_printer_tree K k).2.2.2.2.1 (grp_text_printer_tree K k).2.2.2.2.2.1 (grp_text_printer_tree K k).2.2.2.2.2.2 q.1 q.2, fun q => text_printer_term_body K (grp_text_printer_tree K k).1 (grp_text_printer_tree K k).2.1 (grp_text_printer_tree K k).2.2.1 (grp_text_printer_tree K k).2.2.2.1 (grp_text_printer_tree K k).2.2.2.2.1 (grp_text_printer_tree K k).2.2.2.2.2.1 (grp_text_printer_tree K k).2.2.2.2.2.2 q.1 q.2, fun q => text_printer_formula_body K (grp_text_printer_tree K k).1 (grp_text_printer_tree K k).2.1 (grp_text_printer_tree K k).2.2.1 (grp_text_printer_tree K k).2.2.2.1 (grp_text_printer_tree K k).2.2.2.2.1 (grp_text_printer_tree K k).2.2.2.2.2.1 (grp_text_printer_tree K k).2.2.2.2.2.2 q.1 q.2, fun q => text_printer_program_body K (grp_text_printer_tree K k).1 (grp_text_printer_tree K k).2.1 (grp_text_printer_tree K k).2.2.1 (grp_text_printer_tree K k).2.2.2.1 (grp_text_printer_tree K k).2.2.2.2.1 (grp_text_printer_tree K k).2.2.2.2.2.1 (grp_text_printer_tree K k).2.2.2.2.2.2 q.1 q.2, fun q => text_printer_around_body K (grp_text_printer_tree K k).1 (grp_text_printer_tree K k).2.1 (grp_text_printer_tree K k).2.2.1 (grp_text_printer_tree K k).2.2.2.1 (grp_text_printer_tree K k).2.2.2.2.1 (grp_text_printer_tree K k).2.2.2.2.2.1 (grp_text_printer_tree K k).2.2.2.2.2.2 q.1 q.2.1 q.2.2.1 q.2.2.2, fun q => text_printer_symbol_body K (grp_text_printer_tree K k).1 (grp_text_printer_tree K k).2.1 (grp_text_printer_tree K k).2.2.1 (grp_text_printer_tree K k).2.2.2.1 (grp_text_printer_tree K k).2.2.2.2.1 (grp_text_printer_tree K k).2.2.2.2.2.1 (grp_text_printer_tree K k).2.2.2.2.2.2 q.1 q.2, fun q => text_printer_flow_body K (grp_text_printer_tree K k).1 (grp_text_printer_tree K k).2.1 (grp_text_printer_tree K k).2.2.1 (grp_text_printer_tree K k).2.2.2.1 (grp_text_printer_tree K k).2.2.2.2.1 (grp_text_printer_tree K k).2.2.2.2.2.1 (grp_text_printer_tree K k).2.2.2.2.2.2 q.1 q.2)
def text_printer_tree (K : Nat) (p0 : Text_printerA) (p1 : NodeA) : Option Text_printerA := (grp_text_printer_tree K K).1 (p0, p1)
theorem key_text_printer_tree {K : Nat} (k : Nat) : (∀ (q : Text_printerA × NodeA) (r : Text_printerA), (grp_text_printer_tree K k).1 q = some r → Cm Tryz.prog 30 [.ptr 0 1 0 0, aggV q.2.enc] 1 ([some ⟨1, [[gV 1 1 q.1.b]]⟩] ++ [gO (fun x : Int => [D.val (.int .u8 x)]) 1 q.1.b]) (.tup []) ([some ⟨1, [[gV 1 1 r.b]]⟩] ++ [gO (fun x : Int => [D.val (.int .u8 x)]) 1 r.b])) ∧ (∀ (q : Text_printerA × NodeA) (r : Text_printerA), (grp_text_printer_tree K k).2.1 q = some r → Cm Tryz.prog 62 [.ptr 0 1 0 0, aggV q.2.enc] 1 ([some ⟨1, [[gV 1 1 q.1.b]]⟩] ++ [gO (fun x : Int => [D.val (.int .u8 x)]) 1 q.1.b]) (.tup []) ([some ⟨1, [[gV 1 1 r.b]]⟩] ++ [gO (fun x : Int => [D.val (.int .u8 x)]) 1 r.b])) ∧ (∀ (q : Text_printerA × NodeA) (r : Text_printerA), (grp_text_printer_tree K k).2.2.1 q = some r → Cm Tryz.prog 63 [.ptr 0 1 0 0, aggV q.2.enc] 1 ([some ⟨1, [[gV 1 1 q.1.b]]⟩] ++ [gO (fun x : Int => [D.val (.int .u8 x)]) 1 q.1.b]) (.tup []) ([some ⟨1, [[gV 1 1 r.b]]⟩] ++ [gO (fun x : Int => [D.val (.int .u8 x)]) 1 r.b])) ∧ (∀ (q : Text_printerA × NodeA) (r : Text_printerA), (grp_text_printer_tree K k).2.2.2.1 q = some r → Cm Tryz.prog 64 [.ptr 0 1 0 0, aggV q.2.enc] 1 ([some ⟨1, [[gV 1 1 q.1.b]]⟩] ++ [gO (fun x : Int => [D.val (.int .u8 x)]) 1 q.1.b]) (.tup []) ([some ⟨1, [[gV 1 1 r.b]]⟩] ++ [gO (fun x : Int => [D.val (.int .u8 x)]) 1 r.b])) ∧ (∀ (q : Text_printerA × ByteArray × NodeA × ByteArray) (r : Text_printerA), (grp_text_printer_tree K k).2.2.2.2.1 q = some r → Cm Tryz.prog 87 [.ptr 0 1 0 0, .d (.val (.string q.2.1)), aggV q.2.2.1.enc, .d (.val (.string q.2.2.2))] 1 ([some ⟨1, [[gV 1 1 q.1.b]]⟩] ++ [gO (fun x : Int => [D.val (.int .u8 x)]) 1 q.1.b]) (.tup []) ([some ⟨1, [[gV 1 1 r.b]]⟩] ++ [gO (fun x : Int => [D.val (.int .u8 x)]) 1 r.b])) ∧ (∀ (q : Text_printerA × NodeA) (r : Text_printerA), (grp_text_printer_tree K k).2.2.2.2.2.1 q = some r → Cm Tryz.prog 88 [.ptr 0 1 0 0, aggV q.2.enc] 1 ([some ⟨1, [[gV 1 1 q.1.b]]⟩] ++ [gO (fun x : Int => [D.val (.int .u8 x)]) 1 q.1.b]) (.tup []) ([some ⟨1, [[gV 1 1 r.b]]⟩] ++ [gO (fun x : Int => [D.val (.int .u8 x)]) 1 r.b])) ∧ (∀ (q : Text_printerA × NodeA) (r : Text_printerA), (grp_text_printer_tree K k).2.2.2.2.2.2 q = some r → Cm Tryz.prog 90 [.ptr 0 1 0 0, aggV q.2.enc] 1 ([some ⟨1, [[gV 1 1 q.1.b]]⟩] ++ [gO (fun x : Int => [D.val (.int .u8 x)]) 1 q.1.b]) (.tup []) ([some ⟨1, [[gV 1 1 r.b]]⟩] ++ [gO (fun x : Int => [D.val (.int .u8 x)]) 1 r.b])) := by
 induction k with
 | zero => exact ⟨(fun q r h => nomatch (show (none : Option _) = some r from h)), (fun q r h => nomatch (show (none : Option _) = some r from h)), (fun q r h => nomatch (show (none : Option _) = some r from h)), (fun q r h => nomatch (show (none : Option _) = some r from h)), (fun q r h => nomatch (show (none : Option _) = some r from h)), (fun q r h => nomatch (show (none : Option _) = some r from h)), (fun q r h => nomatch (show (none : Option _) = some r from h))⟩
 | succ k ih => exact ⟨fun q r h => text_printer_tree_step K _ _ _ _ _ _ _ ih.1 ih.2.1 ih.2.2.1 ih.2.2.2.1 ih.2.2.2.2.1 ih.2.2.2.2.2.1 ih.2.2.2.2.2.2 q.1 q.2 r h, fun q r h => text_printer_term_step K _ _ _ _ _ _ _ ih.1 ih.2.1 ih.2.2.1 ih.2.2.2.1 ih.2.2.2.2.1 ih.2.2.2.2.2.1 ih.2.2.2.2.2.2 q.1 q.2 r h, fun q r h => text_printer_formula_step K _ _ _ _ _ _ _ ih.1 ih.2.1 ih.2.2.1 ih.2.2.2.1 ih.2.2.2.2.1 ih.2.2.2.2.2.1 ih.2.2.2.2.2.2 q.1 q.2 r h, fun q r h => text_printer_program_step K _ _ _ _ _ _ _ ih.1 ih.2.1 ih.2.2.1 ih.2.2.2.1 ih.2.2.2.2.1 ih.2.2.2.2.2.1 ih.2.2.2.2.2.2 q.1 q.2 r h, fun q r h => text_printer_around_step K _ _ _ _ _ _ _ ih.1 ih.2.1 ih.2.2.1 ih.2.2.2.1 ih.2.2.2.2.1 ih.2.2.2.2.2.1 ih.2.2.2.2.2.2 q.1 q.2.1 q.2.2.1 q.2.2.2 r h, fun q r h => text_printer_symbol_step K _ _ _ _ _ _ _ ih.1 ih.2.1 ih.2.2.1 ih.2.2.2.1 ih.2.2.2.2.1 ih.2.2.2.2.2.1 ih.2.2.2.2.2.2 q.1 q.2 r h, fun q r h => text_printer_flow_step K _ _ _ _ _ _ _ ih.1 ih.2.1 ih.2.2.1 ih.2.2.2.1 ih.2.2.2.2.1 ih.2.2.2.2.2.1 ih.2.2.2.2.2.2 q.1 q.2 r h⟩
theorem text_printer_tree_ok {K : Nat} {p0 : Text_printerA} {p1 : NodeA} {r : Text_printerA} (h : text_printer_tree K p0 p1 = some r) : Cm Tryz.prog 30 [.ptr 0 1 0 0, aggV p1.enc] 1 ([some ⟨1, [[gV 1 1 p0.b]]⟩] ++ [gO (fun x : Int => [D.val (.int .u8 x)]) 1 p0.b]) (.tup []) ([some ⟨1, [[gV 1 1 r.b]]⟩] ++ [gO (fun x : Int => [D.val (.int .u8 x)]) 1 r.b]) := (key_text_printer_tree K).1 (p0, p1) r h
/-! ### isochrone/text.show -/
def text_show (K : Nat) (p0 : Option (List Int)) (p1 : NodeA) : Option (Option (List Int)) := (text_printer_tree K (Text_printerA.mk p0) p1).bind fun r1 =>
 some r1.b
set_option maxHeartbeats 4000000 in
theorem text_show_ok {K : Nat} {p0 : Option (List Int)} {p1 : NodeA} {r : (Option (List Int))} (h : text_show K p0 p1 = some r) : Cm Tryz.prog 17 [gV 0 1 p0, aggV p1.enc] 0 ([] ++ [gO (fun x : Int => [D.val (.int .u8 x)]) 1 p0]) (gV 0 1 r) ([] ++ [gO (fun x : Int => [D.val (.int .u8 x)]) 1 r]) := by
 refine Cm.ofA mixed Tryz.func17 rfl Tryz.call17 Tryz.ntmps17 Tryz.results17 (by simp) rfl rfl (by simp only [go_sem, reduceEqDiff, reduceAdd, reduceSub, reduceMul, reduceLeDiff, reduceLT, Nat.reduceBEq, reduceIte, List.length_cons]) (by simp only [go_sem, reduceEqDiff, reduceAdd, reduceSub, reduceMul, reduceLeDiff, reduceLT, Nat.reduceBEq, reduceIte]) (by simp only [go_sem, reduceEqDiff, reduceAdd, reduceSub, reduceMul, reduceLeDiff, reduceLT, Nat.reduceBEq, reduceIte]) (by simp only [go_sem, reduceEqDiff, reduceAdd, reduceSub, reduceMul, reduceLeDiff, reduceLT, Nat.reduceBEq, reduceIte]) datO_g datO_g fun hfit => ?_
 unfold text_show at h
 refine AW.kr [0] [0, 1] ?_
 refine AW.kr [0, 1] [0, 3] ?_
 refine AW.kr [1, 4, 0] [3, 5] ?_
 apply bE h; intro r1 hx2 h
 have hc := nx (text_printer_tree_ok (h := hx2))
 refine callK_grow [1] 2 hc (by simp only [go_sem, reduceEqDiff, reduceAdd, reduceSub, reduceMul, reduceLeDiff, reduceLT, Nat.reduceBEq, reduceIte] <;> rfl) (by simp) (by simp) (by simp only [go_sem, reduceEqDiff, reduceAdd, reduceSub, reduceMul, reduceLeDiff, reduceLT, Nat.reduceBEq, reduceIte]) ?_
 refine ns ?_
 refine AW.kr [1, 5] [5] ?_
 refine AW.ret ?_
 cases h; refine nz ?_; refine EndM.mk 1 (by decide) (by simp only [go_sem, reduceEqDiff, reduceAdd, reduceSub, reduceMul, reduceLeDiff, reduceLT, Nat.reduceBEq, reduceIte]) (ns ?_); exact .same _
/-! ### isochrone/tree.letter -/
def tree_letter (K : Nat) (p0 : Int) : Option Bool := if (decide ((97 : Int) ≤ p0)) then
  if (decide (p0 ≤ (122 : Int))) then
   some true
  else
   if (decide ((65 : Int) ≤ p0)) then
    some (decide (p0 ≤ (90 : Int)))
   else
    some false
 else
  if (decide ((65 : Int) ≤ p0)) then
   some (decide (p0 ≤ (90 : Int)))
  else
   some false
set_option maxHeartbeats 4000000 in
theorem tree_letter_ok {K : Nat} {p0 : Int} {r : Bool} (h : tree_letter K p0 = some r) : Cn Tryz.prog 85 [.d (.val (.int .u8 p0))] (.d (.val (.bool r))) := by
 refine Cn.oz Tryz.func85 Tryz.call85 Tryz.ntmps85 Tryz.results85 fun hfit => ?_
 unfold tree_letter at h
 refine AW.kr [] [0] ?_
 refine AW.kr [] [0] ?_
 refine sK h (fun hb1 h => ?_) fun hb1 h => ?_
 ·refine sK h (fun hb2 h => ?_) fun hb2 h => ?_
  ·refine AW.ret ?_
   cases h; refine nz ?_; exact .same _
  refine sK h (fun hb3 h => ?_) fun hb3 h => ?_
  ·refine AW.ret ?_
   cases h; refine nz ?_; exact .same _
  refine AW.ret ?_
  cases h; refine nz ?_; exact .same _
 refine sK h (fun hb4 h => ?_) fun hb4 h => ?_
 ·refine AW.ret ?_
  cases h; refine nz ?_; exact .same _
 refine AW.ret ?_
 cases h; refine nz ?_; exact .same _
/-! ### isochrone/tree.Name -/
def tree_Name (K : Nat) (p0 : ByteArray) : Option Bool := ((
  ((
   if ((p0.size : Int) == (0 : Int)) then
    some true
   else
    if (decide ((12 : Int) < (p0.size : Int))) then
     some true
    else
     (strAt p0 (0 : Int)).bind fun c7 =>
     (tree_letter K (c7.toNat : Int)).bind fun r9 =>
     some (!r9)) : Option Bool).bind (fun v3_0 =>
  if v3_0 then
   outM (
    some false)
  else
   some (.go ()))) : Option (Out Unit _)).bind (Out.fin fun _ =>
 ((iter (S := Int) (R := Out Unit _) K (fun again i12_0 =>
  if (decide (i12_0 < (p0.size : Int))) then
   ((
    ((
     (strAt p0 i12_0).bind fun c21 =>
     (tree_letter K (c21.toNat : Int)).bind fun r23 =>
     if (!r23) then
      if (decide ((c21.toNat : Int) < (48 : Int))) then
       some true
      else
       some (decide ((57 : Int) < (c21.toNat : Int)))
     else
      some false) : Option Bool).bind (fun v19_0 =>
    if v19_0 then
     outM (
      outM (
       some false))
    else
     some (.go ()))) : Option (Out Unit _)).bind (Out.fin fun _ =>
   again (IntKind.wrap .i64 (i12_0 + (1 : Int))))
  else
   some (.go ())) (0 : Int)) : Option (Out Unit _)).bind (Out.fin fun _ =>
 ((
  if (p0.toList == (⟨#[116, 114, 117, 101]⟩ : ByteArray).toList) then
   some (p0.toList == (⟨#[116, 114, 117, 101]⟩ : ByteArray).toList)
  else
   if (p0.toList == (⟨#[102, 97, 108, 115, 101]⟩ : ByteArray).toList) then
    some (p0.toList == (⟨#[102, 97, 108, 115, 101]⟩ : ByteArray).toList)
   else
    if (p0.toList == (⟨#[102, 111, 114, 97, 108, 108]⟩ : ByteArray).toList) then
     some (p0.toList == (⟨#[102, 111, 114, 97, 108, 108]⟩ : ByteArray).toList)
    else
     some (p0.toList == (⟨#[101, 120, 105, 115, 116, 115]⟩ : ByteArray).toList)) : Option Bool).bind (fun v28_0 =>
 if v28_0 then
  some false
 else
  some true)))
set_option maxHeartbeats 4000000 in
theorem tree_Name_ok {K : Nat} {p0 : ByteArray} {r : Bool} (h : tree_Name K p0 = some r) : Cn Tryz.prog 58 [.d (.val (.string p0))] (.d (.val (.bool r))) := by
 refine Cn.oz Tryz.func58 Tryz.call58 Tryz.ntmps58 Tryz.results58 fun hfit => ?_
 unfold tree_Name at h
 refine AW.kr [] [0] ?_
 refine AW.ks [] [0] ?_
 refine AW.jo h (fun _ => [(0, vS p0)]) (fun _ => []) (fun oJ2 h hJ2 => ?_) fun ⟨⟩ h => ?_
 ·refine AW.jn h (fun v3_0 => [(0, vS p0), (17, vB v3_0)]) (fun v3_0 => []) (fun oJ4 h => ?_) fun v3_0 h => ?_
  ·refine AW.rp ?_
   refine sK h (fun hb5 h => ?_) fun hb5 h => ?_
   ·exact ja [] h
   refine sK h (fun hb6 h => ?_) fun hb6 h => ?_
   ·exact ja [] h
   refine bb h fun c7 hx8 h => ?_
   refine cm h tree_letter_ok fun r9 hx10 h => ?_
   exact ja [] h
  refine AW.tk h (fun hb11 h => ?_) fun hb11 h => ?_
  ·refine AW.ro ?_
   refine AW.ret ?_
   have h := up h hJ2
   cases h; refine nz ?_; exact .same _
  exact jo [] h
 refine AW.one ?_
 refine AW.ro ?_
 refine AW.ks [] [0, 3] ?_
 refine AW.lp h (fun _ => [(0, vS p0)]) (fun _ => []) (fun i12_0 => [(0, vS p0), (3, vI i12_0)]) (fun i12_0 => []) [] (fun oJ15 hJ15 again i12_0 h => ?_) fun ⟨⟩ h => ?_
 ·refine AW.one ?_
  refine AW.ro ?_
  refine AW.ks [] [0, 3, 21] ?_
  refine AW.tt h (fun hb16 h => ?_) fun hb16 h => ?_
  ·refine AW.sk ?_
   refine AW.ks [] [0, 3] ?_
   refine AW.jo h (fun _ => [(0, vS p0), (3, vI i12_0)]) (fun _ => []) (fun oJ18 h hJ18 => ?_) fun ⟨⟩ h => ?_
   ·refine AW.block ?_
    refine AW.jn h (fun v19_0 => [(0, vS p0), (3, vI i12_0), (40, vB v19_0)]) (fun v19_0 => []) (fun oJ20 h => ?_) fun v19_0 h => ?_
    ·refine AW.rp ?_
     refine bb h fun c21 hx22 h => ?_
     refine cm h tree_letter_ok fun r23 hx24 h => ?_
     refine sK h (fun hb25 h => ?_) fun hb25 h => ?_
     ·refine sK h (fun hb26 h => ?_) fun hb26 h => ?_
      ·exact ja [] h
      exact ja [] h
     exact ja [] h
    refine AW.tk h (fun hb27 h => ?_) fun hb27 h => ?_
    ·refine AW.ro ?_
     refine AW.ret ?_
     have h := up h hJ18
     have h := up h hJ15
     cases h; refine nz ?_; exact .same _
    exact jo [] h
   refine AW.rp ?_
   exact na [] h
  refine AW.ex ?_
  exact jo [] h
 refine AW.ks [] [0] ?_
 refine AW.one ?_
 refine AW.ro ?_
 refine AW.ks [] [41] ?_
 refine AW.block ?_
 refine AW.jn h (fun v28_0 => [(42, vB v28_0)]) (fun v28_0 => []) (fun oJ29 h => ?_) fun v28_0 h => ?_
 ·refine AW.ro ?_
  refine AW.ks [] [41, 42] ?_
  refine AW.tt h (fun hb30 h => ?_) fun hb30 h => ?_
  ·refine AW.sk ?_
   exact ja [] h
  refine AW.ro ?_
  refine AW.ks [] [41, 42] ?_
  refine AW.tt h (fun hb31 h => ?_) fun hb31 h => ?_
  ·refine AW.sk ?_
   exact ja [] h
  refine AW.ro ?_
  refine AW.ks [] [41, 42] ?_
  refine AW.tt h (fun hb32 h => ?_) fun hb32 h => ?_
  ·refine AW.sk ?_
   exact ja [] h
  refine AW.rp ?_
  exact ja [] h
 refine AW.tk h (fun hb33 h => ?_) fun hb33 h => ?_
 ·refine AW.ro ?_
  refine AW.ret ?_
  cases h; refine nz ?_; exact .same _
 refine AW.kr [] [] ?_
 refine AW.ret ?_
 cases h; refine nz ?_; exact .same _
/-! ### isochrone/tree.differentiable -/
def tree_differentiable_body (K : Nat) (self59 : NodeA → Option Bool) (p0 : NodeA) : Option Bool := ((
  if (p0.op == (20 : Int)) then
   some (p0.op == (20 : Int))
  else
   if (p0.op == (21 : Int)) then
    some (p0.op == (21 : Int))
   else
    if (p0.op == (22 : Int)) then
     some (p0.op == (22 : Int))
    else
     if (p0.op == (23 : Int)) then
      some (p0.op == (23 : Int))
     else
      if (p0.op == (24 : Int)) then
       some (p0.op == (24 : Int))
      else
       if (p0.op == (25 : Int)) then
        some (p0.op == (25 : Int))
       else
        if (p0.op == (26 : Int)) then
         some (p0.op == (26 : Int))
        else
         if (p0.op == (27 : Int)) then
          some (p0.op == (27 : Int))
         else
          if (p0.op == (37 : Int)) then
           some (p0.op == (37 : Int))
          else
           some (p0.op == (38 : Int))) : Option Bool).bind (fun v1_0 =>
 if v1_0 then
  some true
 else
  ((
   if (p0.op == (29 : Int)) then
    some (p0.op == (29 : Int))
   else
    some (p0.op == (30 : Int))) : Option Bool).bind (fun v13_0 =>
  if v13_0 then
   ((iter (S := Int) (R := Out Unit _) K (fun again i17_0 =>
    if (decide (i17_0 < (p0.kids.length : Int))) then
     (idx p0.kids i17_0).bind fun x22 =>
     (self59 (x22)).bind fun r24 =>
     if (!r24) then
      outM (
       some false)
     else
      again (IntKind.wrap .i64 (i17_0 + (1 : Int)))
    else
     some (.go ())) (0 : Int)) : Option (Out Unit _)).bind (Out.fin fun _ =>
   some true)
  else
   some false))
set_option maxHeartbeats 4000000 in
theorem tree_differentiable_step (K : Nat) (self59 : NodeA → Option Bool) (hself59 : ∀ (q : NodeA) (r : Bool), self59 q = some r → Cn Tryz.prog 59 [aggV q.enc] (.d (.val (.bool r)))) (p0 : NodeA) (r : Bool) (h : tree_differentiable_body K self59 p0 = some r) : Cn Tryz.prog 59 [aggV p0.enc] (.d (.val (.bool r))) := by
 refine Cn.oz Tryz.func59 Tryz.call59 Tryz.ntmps59 Tryz.results59 fun hfit => ?_
 unfold tree_differentiable_body at h
 refine AW.kr [] [0] ?_
 refine AW.ks [0] [1] ?_
 refine AW.one ?_
 refine AW.ro ?_
 refine AW.ks [0] [1, 6] ?_
 refine AW.block ?_
 refine AW.jn h (fun v1_0 => [(1, .ptr 0 6 0 0), (6, vI p0.op), (7, vB v1_0)]) (fun v1_0 => [vE p0.enc]) (fun oJ2 h => ?_) fun v1_0 h => ?_
 ·refine AW.ro ?_
  refine AW.ks [0] [1, 6, 7] ?_
  refine AW.tt h (fun hb3 h => ?_) fun hb3 h => ?_
  ·refine AW.sk ?_
   exact ja [0] h
  refine AW.ro ?_
  refine AW.ks [0] [1, 6, 7] ?_
  refine AW.tt h (fun hb4 h => ?_) fun hb4 h => ?_
  ·refine AW.sk ?_
   exact ja [0] h
  refine AW.ro ?_
  refine AW.ks [0] [1, 6, 7] ?_
  refine AW.tt h (fun hb5 h => ?_) fun hb5 h => ?_
  ·refine AW.sk ?_
   exact ja [0] h
  refine AW.ro ?_
  refine AW.ks [0] [1, 6, 7] ?_
  refine AW.tt h (fun hb6 h => ?_) fun hb6 h => ?_
  ·refine AW.sk ?_
   exact ja [0] h
  refine AW.ro ?_
  refine AW.ks [0] [1, 6, 7] ?_
  refine AW.tt h (fun hb7 h => ?_) fun hb7 h => ?_
  ·refine AW.sk ?_
   exact ja [0] h
  refine AW.ro ?_
  refine AW.ks [0] [1, 6, 7] ?_
  refine AW.tt h (fun hb8 h => ?_) fun hb8 h => ?_
  ·refine AW.sk ?_
   exact ja [0] h
  refine AW.ro ?_
  refine AW.ks [0] [1, 6, 7] ?_
  refine AW.tt h (fun hb9 h => ?_) fun hb9 h => ?_
  ·refine AW.sk ?_
   exact ja [0] h
  refine AW.ro ?_
  refine AW.ks [0] [1, 6, 7] ?_
  refine AW.tt h (fun hb10 h => ?_) fun hb10 h => ?_
  ·refine AW.sk ?_
   exact ja [0] h
  refine AW.ro ?_
  refine AW.ks [0] [1, 6, 7] ?_
  refine AW.tt h (fun hb11 h => ?_) fun hb11 h => ?_
  ·refine AW.sk ?_
   exact ja [0] h
  refine AW.rp ?_
  exact ja [0] h
 refine AW.tt h (fun hb12 h => ?_) fun hb12 h => ?_
 ·refine AW.ro ?_
  refine AW.ret ?_
  cases h; refine nz ?_; exact .same _
 refine AW.jn h (fun v13_0 => [(1, .ptr 0 6 0 0), (18, vB v13_0)]) (fun v13_0 => [vE p0.enc]) (fun oJ14 h => ?_) fun v13_0 h => ?_
 ·refine AW.ro ?_
  refine AW.ks [0] [1, 6, 18] ?_
  refine AW.tt h (fun hb15 h => ?_) fun hb15 h => ?_
  ·refine AW.sk ?_
   exact ja [0] h
  refine AW.rp ?_
  exact ja [0] h
 refine AW.tk h (fun hb16 h => ?_) fun hb16 h => ?_
 ·refine AW.one ?_
  refine AW.ro ?_
  refine AW.ks [] [22, 23, 24] ?_
  refine AW.lp h (fun _ => []) (fun _ => []) (fun i17_0 => [(22, vL NodeA.enc p0.kids), (23, vI (p0.kids.length : Int)), (24, vI i17_0)]) (fun i17_0 => []) [] (fun oJ20 hJ20 again i17_0 h => ?_) fun ⟨⟩ h => ?_
  ·refine AW.ro ?_
   refine AW.ks [] [22, 23, 24, 25] ?_
   refine AW.one ?_
   refine AW.tt h (fun hb21 h => ?_) fun hb21 h => ?_
   ·refine AW.sk ?_
    refine AW.ks [] [22, 23, 24] ?_
    refine AW.one ?_
    refine AW.block ?_
    refine AW.ro ?_
    refine bx h fun x22 h0 h1 h => ?_
    refine AW.kr [2] [4, 22, 23, 24] ?_
    refine cm h (hself59 _ _) fun r24 hx25 h => ?_
    refine AW.ks [] [22, 23, 24, 30] ?_
    refine AW.tk h (fun hb26 h => ?_) fun hb26 h => ?_
    ·refine AW.ro ?_
     refine AW.ret ?_
     have h := up h hJ20
     cases h; refine nz ?_; exact .same _
    refine AW.ks [] [22, 23, 24] ?_
    refine AW.rp ?_
    exact na [] h
   refine AW.ex ?_
   exact jo [] h
  refine AW.kr [] [] ?_
  refine AW.ret ?_
  cases h; refine nz ?_; exact .same _
 refine AW.kr [] [] ?_
 refine AW.ret ?_
 cases h; refine nz ?_; exact .same _
def tree_differentiable (K : Nat) (p0 : NodeA) : Option Bool := iter K (fun self q => tree_differentiable_body K self q) p0
theorem key_tree_differentiable {K : Nat} (k : Nat) : (∀ (q : NodeA) (r : Bool), iter k (fun self q => tree_differentiable_body K self q) q = some r → Cn Tryz.prog 59 [aggV q.enc] (.d (.val (.bool r)))) := by
 induction k with
 | zero => exact fun q r h => by cases h
 | succ k ih => exact fun q r h => tree_differentiable_step K _ ih q r h
theorem tree_differentiable_ok {K : Nat} {p0 : NodeA} {r : Bool} (h : tree_differentiable K p0 = some r) : Cn Tryz.prog 59 [aggV p0.enc] (.d (.val (.bool r))) := (key_tree_differentiable K) p0 r h
/-! ### isochrone/num.valid -/
def num_valid (K : Nat) (p0 : List Int) (p1 : Int) : Option Bool := if (decide ((p0.length : Int) ≤ p1)) then
  if ((p0.length : Int) == (0 : Int)) then
   some true
  else
   (idx p0 (IntKind.wrap .i64 ((p0.length : Int) - (1 : Int)))).bind fun x3 =>
   some (x3 != (0 : Int))
 else
  some false
set_option maxHeartbeats 4000000 in
theorem num_valid_ok {K : Nat} {p0 : List Int} {p1 : Int} {r : Bool} (h : num_valid K p0 p1 = some r) : Cn Tryz.prog 127 [.d (slD u32V p0), .d (.val (.int .i64 p1))] (.d (.val (.bool r))) := by
 refine Cn.oz Tryz.func127 Tryz.call127 Tryz.ntmps127 Tryz.results127 fun hfit => ?_
 unfold num_valid at h
 refine AW.kr [] [0, 1] ?_
 refine AW.kr [] [0, 1] ?_
 refine sK h (fun hb1 h => ?_) fun hb1 h => ?_
 ·refine sK h (fun hb2 h => ?_) fun hb2 h => ?_
  ·refine AW.ret ?_
   cases h; refine nz ?_; exact .same _
  refine bx h fun x3 h0 h1 h => ?_
  refine AW.ret ?_
  cases h; refine nz ?_; exact .same _
 refine AW.ret ?_
 cases h; refine nz ?_; exact .same _
/-! ### isochrone/num.Valid -/
def num_Valid (K : Nat) (p0 : RatA) (p1 : Int) : Option Bool := ((
  ((
   (num_valid K p0.num p1).bind fun r5 =>
   if (!r5) then
    some true
   else
    (num_valid K p0.den p1).bind fun r8 =>
    if (!r8) then
     some true
    else
     some ((p0.den.length : Int) == (0 : Int))) : Option Bool).bind (fun v3_0 =>
  if v3_0 then
   outM (
    some false)
  else
   some (.go ()))) : Option (Out Unit _)).bind (Out.fin fun _ =>
 if ((p0.num.length : Int) == (0 : Int)) then
  if (!p0.neg) then
   if ((p0.den.length : Int) == (1 : Int)) then
    (idx p0.den (0 : Int)).bind fun x15 =>
    some (x15 == (1 : Int))
   else
    some false
  else
   some false
 else
  ((
   ((
    if ((p0.den.length : Int) == (1 : Int)) then
     (idx p0.den (0 : Int)).bind fun x22 =>
     some (x22 == (1 : Int))
    else
     some false) : Option Bool).bind (fun v19_0 =>
   if v19_0 then
    outM (
     some true)
   else
    some (.go ()))) : Option (Out Unit _)).bind (Out.fin fun _ =>
  none))
set_option maxHeartbeats 4000000 in
theorem num_Valid_ok {K : Nat} {p0 : RatA} {p1 : Int} {r : Bool} (h : num_Valid K p0 p1 = some r) : Cn Tryz.prog 107 [aggV p0.enc, .d (.val (.int .i64 p1))] (.d (.val (.bool r))) := by
 refine Cn.oz Tryz.func107 Tryz.call107 Tryz.ntmps107 Tryz.results107 fun hfit => ?_
 unfold num_Valid at h
 refine AW.kr [] [0, 1] ?_
 refine AW.ks [0] [1, 2] ?_
 refine AW.jo h (fun _ => [(2, .ptr 0 3 0 0)]) (fun _ => [vE p0.enc]) (fun oJ2 h hJ2 => ?_) fun ⟨⟩ h => ?_
 ·refine AW.jn h (fun v3_0 => [(2, .ptr 0 3 0 0), (23, vB v3_0)]) (fun v3_0 => [vE p0.enc]) (fun oJ4 h => ?_) fun v3_0 h => ?_
  ·refine AW.rp ?_
   refine cm h num_valid_ok fun r5 hx6 h => ?_
   refine sK h (fun hb7 h => ?_) fun hb7 h => ?_
   ·exact ja [0] h
   refine cm h num_valid_ok fun r8 hx9 h => ?_
   refine sK h (fun hb10 h => ?_) fun hb10 h => ?_
   ·exact ja [0] h
   exact ja [0] h
  refine AW.tk h (fun hb11 h => ?_) fun hb11 h => ?_
  ·refine AW.ro ?_
   refine AW.ret ?_
   have h := up h hJ2
   cases h; refine nz ?_; exact .same _
  exact jo [0] h
 refine AW.one ?_
 refine AW.ro ?_
 refine AW.ks [0] [2, 27] ?_
 refine AW.tk h (fun hb12 h => ?_) fun hb12 h => ?_
 ·refine AW.ro ?_
  refine sK h (fun hb13 h => ?_) fun hb13 h => ?_
  ·refine sK h (fun hb14 h => ?_) fun hb14 h => ?_
   ·refine bx h fun x15 h0 h1 h => ?_
    refine AW.ret ?_
    cases h; refine nz ?_; exact .same _
   refine AW.ret ?_
   cases h; refine nz ?_; exact .same _
  refine AW.ret ?_
  cases h; refine nz ?_; exact .same _
 refine AW.ks [0] [2] ?_
 refine AW.jo h (fun _ => [(2, .ptr 0 3 0 0)]) (fun _ => [vE p0.enc]) (fun oJ18 h hJ18 => ?_) fun ⟨⟩ h => ?_
 ·refine AW.jn h (fun v19_0 => [(2, .ptr 0 3 0 0), (54, vB v19_0)]) (fun v19_0 => [vE p0.enc]) (fun oJ20 h => ?_) fun v19_0 h => ?_
  ·refine AW.rp ?_
   refine sK h (fun hb21 h => ?_) fun hb21 h => ?_
   ·refine bx h fun x22 h0 h1 h => ?_
    exact ja [0] h
   exact ja [0] h
  refine AW.tk h (fun hb24 h => ?_) fun hb24 h => ?_
  ·refine AW.ro ?_
   refine AW.ret ?_
   have h := up h hJ18
   cases h; refine nz ?_; exact .same _
  exact jo [0] h
 refine AW.ro ?_
 cases h
/-! ### isochrone/rat.Valid -/
def rat_Valid (K : Nat) (p0 : RatA) : Option Bool := (num_Valid K p0 (4096 : Int)).bind fun r1 =>
 some r1
set_option maxHeartbeats 4000000 in
theorem rat_Valid_ok {K : Nat} {p0 : RatA} {r : Bool} (h : rat_Valid K p0 = some r) : Cn Tryz.prog 84 [aggV p0.enc] (.d (.val (.bool r))) := by
 refine Cn.oz Tryz.func84 Tryz.call84 Tryz.ntmps84 Tryz.results84 fun hfit => ?_
 unfold rat_Valid at h
 refine AW.kr [] [0] ?_
 refine AW.kr [0] [1] ?_
 refine cm h num_Valid_ok fun r1 hx2 h => ?_
 refine AW.ret ?_
 cases h; refine nz ?_; exact .same _
/-! ### isochrone/tree.natural -/
def tree_natural (K : Nat) (p0 : RatA) : Option Bool := if (!p0.neg) then
  if ((p0.den.length : Int) == (1 : Int)) then
   (idx p0.den (0 : Int)).bind fun x3 =>
   if (x3 == (1 : Int)) then
    if (decide ((p0.num.length : Int) ≤ (20 : Int))) then
     (rat_Valid K p0).bind fun r7 =>
     some r7
    else
     some false
   else
    some false
  else
   some false
 else
  some false
set_option maxHeartbeats 4000000 in
theorem tree_natural_ok {K : Nat} {p0 : RatA} {r : Bool} (h : tree_natural K p0 = some r) : Cn Tryz.prog 56 [aggV p0.enc] (.d (.val (.bool r))) := by
 refine Cn.oz Tryz.func56 Tryz.call56 Tryz.ntmps56 Tryz.results56 fun hfit => ?_
 unfold tree_natural at h
 refine AW.kr [] [0] ?_
 refine AW.kr [0] [1] ?_
 refine sK h (fun hb1 h => ?_) fun hb1 h => ?_
 ·refine sK h (fun hb2 h => ?_) fun hb2 h => ?_
  ·refine bx h fun x3 h0 h1 h => ?_
   refine sK h (fun hb5 h => ?_) fun hb5 h => ?_
   ·refine sK h (fun hb6 h => ?_) fun hb6 h => ?_
    ·refine cm h rat_Valid_ok fun r7 hx8 h => ?_
     refine AW.ret ?_
     cases h; refine nz ?_; exact .same _
    refine AW.ret ?_
    cases h; refine nz ?_; exact .same _
   refine AW.ret ?_
   cases h; refine nz ?_; exact .same _
  refine AW.ret ?_
  cases h; refine nz ?_; exact .same _
 refine AW.ret ?_
 cases h; refine nz ?_; exact .same _
/-! ### isochrone/tree.shape -/
def tree_shape (K : Nat) (p0 : Int) : Option (Bool × (Option (List Int))) := ((
  if (p0 == (1 : Int)) then
   some (p0 == (1 : Int))
  else
   if (p0 == (13 : Int)) then
    some (p0 == (13 : Int))
   else
    if (p0 == (20 : Int)) then
     some (p0 == (20 : Int))
    else
     some (p0 == (21 : Int))) : Option Bool).bind (fun v1_0 =>
 if v1_0 then
  some (false, none)
 else
  ((
   if (p0 == (2 : Int)) then
    some (p0 == (2 : Int))
   else
    if (p0 == (3 : Int)) then
     some (p0 == (3 : Int))
    else
     if (p0 == (11 : Int)) then
      some (p0 == (11 : Int))
     else
      if (p0 == (38 : Int)) then
       some (p0 == (38 : Int))
      else
       if (p0 == (52 : Int)) then
        some (p0 == (52 : Int))
       else
        if (p0 == (56 : Int)) then
         some (p0 == (56 : Int))
        else
         if (p0 == (61 : Int)) then
          some (p0 == (61 : Int))
         else
          some (p0 == (62 : Int))) : Option Bool).bind (fun v7_0 =>
  if v7_0 then
   some (true, none)
  else
   ((
    if (p0 == (4 : Int)) then
     some (p0 == (4 : Int))
    else
     if (p0 == (12 : Int)) then
      some (p0 == (12 : Int))
     else
      if (p0 == (53 : Int)) then
       some (p0 == (53 : Int))
      else
       if (p0 == (28 : Int)) then
        some (p0 == (28 : Int))
       else
        if (p0 == (39 : Int)) then
         some (p0 == (39 : Int))
        else
         if (p0 == (59 : Int)) then
          some (p0 == (59 : Int))
         else
          some (p0 == (60 : Int))) : Option Bool).bind (fun v17_0 =>
   if v17_0 then
    ((
     ((
      if (p0 == (4 : Int)) then
       some (p0 == (4 : Int))
      else
       some (p0 == (12 : Int))) : Option Bool).bind (fun v28_0 =>
     if v28_0 then
      outM (
       some (false, (some [(1 : Int)])))
     else
      ((
       if (p0 == (59 : Int)) then
        some (p0 == (59 : Int))
       else
        some (p0 == (60 : Int))) : Option Bool).bind (fun v32_0 =>
      if v32_0 then
       outM (
        some (false, (some [(3 : Int)])))
      else
       some (.go ())))) : Option (Out Unit _)).bind (Out.fin fun _ =>
    some (false, (some [(2 : Int)])))
   else
    ((
     if (p0 == (5 : Int)) then
      some (p0 == (5 : Int))
     else
      if (p0 == (6 : Int)) then
       some (p0 == (6 : Int))
      else
       if (p0 == (7 : Int)) then
        some (p0 == (7 : Int))
       else
        if (p0 == (8 : Int)) then
         some (p0 == (8 : Int))
        else
         if (p0 == (9 : Int)) then
          some (p0 == (9 : Int))
         else
          if (p0 == (22 : Int)) then
           some (p0 == (22 : Int))
          else
           if (p0 == (23 : Int)) then
            some (p0 == (23 : Int))
           else
            if (p0 == (24 : Int)) then
             some (p0 == (24 : Int))
            else
             if (p0 == (25 : Int)) then
              some (p0 == (25 : Int))
             else
              if (p0 == (26 : Int)) then
               some (p0 == (26 : Int))
              else
               some (p0 == (27 : Int))) : Option Bool).bind (fun v36_0 =>
    if v36_0 then
     some (false, (some [(1 : Int), (1 : Int)]))
    else
     ((
      if (p0 == (29 : Int)) then
       some (p0 == (29 : Int))
      else
       if (p0 == (30 : Int)) then
        some (p0 == (30 : Int))
       else
        if (p0 == (31 : Int)) then
         some (p0 == (31 : Int))
        else
         some (p0 == (32 : Int))) : Option Bool).bind (fun v49_0 =>
     if v49_0 then
      some (false, (some [(2 : Int), (2 : Int)]))
     else
      ((
       if (p0 == (33 : Int)) then
        some (p0 == (33 : Int))
       else
        some (p0 == (34 : Int))) : Option Bool).bind (fun v55_0 =>
      if v55_0 then
       some (true, (some [(2 : Int)]))
      else
       ((
        if (p0 == (35 : Int)) then
         some (p0 == (35 : Int))
        else
         some (p0 == (36 : Int))) : Option Bool).bind (fun v59_0 =>
       if v59_0 then
        some (false, (some [(3 : Int), (2 : Int)]))
       else
        ((
         if (p0 == (50 : Int)) then
          some (p0 == (50 : Int))
         else
          if (p0 == (51 : Int)) then
           some (p0 == (51 : Int))
          else
           some (p0 == (55 : Int))) : Option Bool).bind (fun v63_0 =>
        if v63_0 then
         some (true, (some [(1 : Int)]))
        else
         ((
          if (p0 == (57 : Int)) then
           some (p0 == (57 : Int))
          else
           some (p0 == (58 : Int))) : Option Bool).bind (fun v68_0 =>
         if v68_0 then
          some (false, (some [(3 : Int), (3 : Int)]))
         else
          some (false, none))))))))))
set_option maxHeartbeats 4000000 in
theorem tree_shape_ok {K : Nat} {p0 : Int} {r : Bool × (Option (List Int))} (h : tree_shape K p0 = some r) : Cn Tryz.prog 57 [.d (.val (.int .i64 p0))] (.tup [.d (.val (.bool r.1)), nilV i64V r.2]) := by
 refine Cn.oz Tryz.func57 Tryz.call57 Tryz.ntmps57 Tryz.results57 fun hfit => ?_
 unfold tree_shape at h
 refine AW.kr [] [0] ?_
 refine AW.ks [] [0] ?_
 refine AW.one ?_
 refine AW.ro ?_
 refine AW.ks [] [0, 4] ?_
 refine AW.block ?_
 refine AW.jn h (fun v1_0 => [(0, vI p0), (4, vI p0), (5, vB v1_0)]) (fun v1_0 => []) (fun oJ2 h => ?_) fun v1_0 h => ?_
 ·refine AW.ro ?_
  refine AW.ks [] [0, 4, 5] ?_
  refine AW.tt h (fun hb3 h => ?_) fun hb3 h => ?_
  ·refine AW.sk ?_
   exact ja [] h
  refine AW.ro ?_
  refine AW.ks [] [0, 4, 5] ?_
  refine AW.tt h (fun hb4 h => ?_) fun hb4 h => ?_
  ·refine AW.sk ?_
   exact ja [] h
  refine AW.ro ?_
  refine AW.ks [] [0, 4, 5] ?_
  refine AW.tt h (fun hb5 h => ?_) fun hb5 h => ?_
  ·refine AW.sk ?_
   exact ja [] h
  refine AW.rp ?_
  exact ja [] h
 refine AW.tt h (fun hb6 h => ?_) fun hb6 h => ?_
 ·refine AW.ro ?_
  refine AW.ret ?_
  cases h; refine nz ?_; exact .same _
 refine AW.jn h (fun v7_0 => [(0, vI p0), (4, vI p0), (10, vB v7_0)]) (fun v7_0 => []) (fun oJ8 h => ?_) fun v7_0 h => ?_
 ·refine AW.ro ?_
  refine AW.ks [] [0, 4, 10] ?_
  refine AW.tt h (fun hb9 h => ?_) fun hb9 h => ?_
  ·refine AW.sk ?_
   exact ja [] h
  refine AW.ro ?_
  refine AW.ks [] [0, 4, 10] ?_
  refine AW.tt h (fun hb10 h => ?_) fun hb10 h => ?_
  ·refine AW.sk ?_
   exact ja [] h
  refine AW.ro ?_
  refine AW.ks [] [0, 4, 10] ?_
  refine AW.tt h (fun hb11 h => ?_) fun hb11 h => ?_
  ·refine AW.sk ?_
   exact ja [] h
  refine AW.ro ?_
  refine AW.ks [] [0, 4, 10] ?_
  refine AW.tt h (fun hb12 h => ?_) fun hb12 h => ?_
  ·refine AW.sk ?_
   exact ja [] h
  refine AW.ro ?_
  refine AW.ks [] [0, 4, 10] ?_
  refine AW.tt h (fun hb13 h => ?_) fun hb13 h => ?_
  ·refine AW.sk ?_
   exact ja [] h
  refine AW.ro ?_
  refine AW.ks [] [0, 4, 10] ?_
  refine AW.tt h (fun hb14 h => ?_) fun hb14 h => ?_
  ·refine AW.sk ?_
   exact ja [] h
  refine AW.ro ?_
  refine AW.ks [] [0, 4, 10] ?_
  refine AW.tt h (fun hb15 h => ?_) fun hb15 h => ?_
  ·refine AW.sk ?_
   exact ja [] h
  refine AW.rp ?_
  exact ja [] h
 refine AW.tt h (fun hb16 h => ?_) fun hb16 h => ?_
 ·refine AW.ro ?_
  refine AW.ret ?_
  cases h; refine nz ?_; exact .same _
 refine AW.jn h (fun v17_0 => [(0, vI p0), (4, vI p0), (19, vB v17_0)]) (fun v17_0 => []) (fun oJ18 h => ?_) fun v17_0 h => ?_
 ·refine AW.ro ?_
  refine AW.ks [] [0, 4, 19] ?_
  refine AW.tt h (fun hb19 h => ?_) fun hb19 h => ?_
  ·refine AW.sk ?_
   exact ja [] h
  refine AW.ro ?_
  refine AW.ks [] [0, 4, 19] ?_
  refine AW.tt h (fun hb20 h => ?_) fun hb20 h => ?_
  ·refine AW.sk ?_
   exact ja [] h
  refine AW.ro ?_
  refine AW.ks [] [0, 4, 19] ?_
  refine AW.tt h (fun hb21 h => ?_) fun hb21 h => ?_
  ·refine AW.sk ?_
   exact ja [] h
  refine AW.ro ?_
  refine AW.ks [] [0, 4, 19] ?_
  refine AW.tt h (fun hb22 h => ?_) fun hb22 h => ?_
  ·refine AW.sk ?_
   exact ja [] h
  refine AW.ro ?_
  refine AW.ks [] [0, 4, 19] ?_
  refine AW.tt h (fun hb23 h => ?_) fun hb23 h => ?_
  ·refine AW.sk ?_
   exact ja [] h
  refine AW.ro ?_
  refine AW.ks [] [0, 4, 19] ?_
  refine AW.tt h (fun hb24 h => ?_) fun hb24 h => ?_
  ·refine AW.sk ?_
   exact ja [] h
  refine AW.rp ?_
  exact ja [] h
 refine AW.tt h (fun hb25 h => ?_) fun hb25 h => ?_
 ·refine AW.jo h (fun _ => []) (fun _ => []) (fun oJ27 h hJ27 => ?_) fun ⟨⟩ h => ?_
  ·refine AW.ro ?_
   refine AW.ks [] [27] ?_
   refine AW.block ?_
   refine AW.jn h (fun v28_0 => [(27, vI p0), (28, vB v28_0)]) (fun v28_0 => []) (fun oJ29 h => ?_) fun v28_0 h => ?_
   ·refine AW.ro ?_
    refine AW.ks [] [27, 28] ?_
    refine AW.tt h (fun hb30 h => ?_) fun hb30 h => ?_
    ·refine AW.sk ?_
     exact ja [] h
    refine AW.rp ?_
    exact ja [] h
   refine AW.tt h (fun hb31 h => ?_) fun hb31 h => ?_
   ·refine AW.ro ?_
    refine AW.ret ?_
    have h := up h hJ27
    cases h; refine nz ?_; exact .same _
   refine AW.jn h (fun v32_0 => [(32, vB v32_0)]) (fun v32_0 => []) (fun oJ33 h => ?_) fun v32_0 h => ?_
   ·refine AW.ro ?_
    refine AW.ks [] [27, 32] ?_
    refine AW.tt h (fun hb34 h => ?_) fun hb34 h => ?_
    ·refine AW.sk ?_
     exact ja [] h
    refine AW.rp ?_
    exact ja [] h
   refine AW.tk h (fun hb35 h => ?_) fun hb35 h => ?_
   ·refine AW.ro ?_
    refine AW.ret ?_
    have h := up h hJ27
    cases h; refine nz ?_; exact .same _
   exact jo [] h
  refine AW.ro ?_
  refine AW.ret ?_
  cases h; refine nz ?_; exact .same _
 refine AW.jn h (fun v36_0 => [(4, vI p0), (37, vB v36_0)]) (fun v36_0 => []) (fun oJ37 h => ?_) fun v36_0 h => ?_
 ·refine AW.ro ?_
  refine AW.ks [] [4, 37] ?_
  refine AW.tt h (fun hb38 h => ?_) fun hb38 h => ?_
  ·refine AW.sk ?_
   exact ja [] h
  refine AW.ro ?_
  refine AW.ks [] [4, 37] ?_
  refine AW.tt h (fun hb39 h => ?_) fun hb39 h => ?_
  ·refine AW.sk ?_
   exact ja [] h
  refine AW.ro ?_
  refine AW.ks [] [4, 37] ?_
  refine AW.tt h (fun hb40 h => ?_) fun hb40 h => ?_
  ·refine AW.sk ?_
   exact ja [] h
  refine AW.ro ?_
  refine AW.ks [] [4, 37] ?_
  refine AW.tt h (fun hb41 h => ?_) fun hb41 h => ?_
  ·refine AW.sk ?_
   exact ja [] h
  refine AW.ro ?_
  refine AW.ks [] [4, 37] ?_
  refine AW.tt h (fun hb42 h => ?_) fun hb42 h => ?_
  ·refine AW.sk ?_
   exact ja [] h
  refine AW.ro ?_
  refine AW.ks [] [4, 37] ?_
  refine AW.tt h (fun hb43 h => ?_) fun hb43 h => ?_
  ·refine AW.sk ?_
   exact ja [] h
  refine AW.ro ?_
  refine AW.ks [] [4, 37] ?_
  refine AW.tt h (fun hb44 h => ?_) fun hb44 h => ?_
  ·refine AW.sk ?_
   exact ja [] h
  refine AW.ro ?_
  refine AW.ks [] [4, 37] ?_
  refine AW.tt h (fun hb45 h => ?_) fun hb45 h => ?_
  ·refine AW.sk ?_
   exact ja [] h
  refine AW.ro ?_
  refine AW.ks [] [4, 37] ?_
  refine AW.tt h (fun hb46 h => ?_) fun hb46 h => ?_
  ·refine AW.sk ?_
   exact ja [] h
  refine AW.ro ?_
  refine AW.ks [] [4, 37] ?_
  refine AW.tt h (fun hb47 h => ?_) fun hb47 h => ?_
  ·refine AW.sk ?_
   exact ja [] h
  refine AW.rp ?_
  exact ja [] h
 refine AW.tt h (fun hb48 h => ?_) fun hb48 h => ?_
 ·refine AW.ro ?_
  refine AW.ret ?_
  cases h; refine nz ?_; exact .same _
 refine AW.jn h (fun v49_0 => [(4, vI p0), (50, vB v49_0)]) (fun v49_0 => []) (fun oJ50 h => ?_) fun v49_0 h => ?_
 ·refine AW.ro ?_
  refine AW.ks [] [4, 50] ?_
  refine AW.tt h (fun hb51 h => ?_) fun hb51 h => ?_
  ·refine AW.sk ?_
   exact ja [] h
  refine AW.ro ?_
  refine AW.ks [] [4, 50] ?_
  refine AW.tt h (fun hb52 h => ?_) fun hb52 h => ?_
  ·refine AW.sk ?_
   exact ja [] h
  refine AW.ro ?_
  refine AW.ks [] [4, 50] ?_
  refine AW.tt h (fun hb53 h => ?_) fun hb53 h => ?_
  ·refine AW.sk ?_
   exact ja [] h
  refine AW.rp ?_
  exact ja [] h
 refine AW.tt h (fun hb54 h => ?_) fun hb54 h => ?_
 ·refine AW.ro ?_
  refine AW.ret ?_
  cases h; refine nz ?_; exact .same _
 refine AW.jn h (fun v55_0 => [(4, vI p0), (56, vB v55_0)]) (fun v55_0 => []) (fun oJ56 h => ?_) fun v55_0 h => ?_
 ·refine AW.ro ?_
  refine AW.ks [] [4, 56] ?_
  refine AW.tt h (fun hb57 h => ?_) fun hb57 h => ?_
  ·refine AW.sk ?_
   exact ja [] h
  refine AW.rp ?_
  exact ja [] h
 refine AW.tt h (fun hb58 h => ?_) fun hb58 h => ?_
 ·refine AW.ro ?_
  refine AW.ret ?_
  cases h; refine nz ?_; exact .same _
 refine AW.jn h (fun v59_0 => [(4, vI p0), (60, vB v59_0)]) (fun v59_0 => []) (fun oJ60 h => ?_) fun v59_0 h => ?_
 ·refine AW.ro ?_
  refine AW.ks [] [4, 60] ?_
  refine AW.tt h (fun hb61 h => ?_) fun hb61 h => ?_
  ·refine AW.sk ?_
   exact ja [] h
  refine AW.rp ?_
  exact ja [] h
 refine AW.tt h (fun hb62 h => ?_) fun hb62 h => ?_
 ·refine AW.ro ?_
  refine AW.ret ?_
  cases h; refine nz ?_; exact .same _
 refine AW.jn h (fun v63_0 => [(4, vI p0), (64, vB v63_0)]) (fun v63_0 => []) (fun oJ64 h => ?_) fun v63_0 h => ?_
 ·refine AW.ro ?_
  refine AW.ks [] [4, 64] ?_
  refine AW.tt h (fun hb65 h => ?_) fun hb65 h => ?_
  ·refine AW.sk ?_
   exact ja [] h
  refine AW.ro ?_
  refine AW.ks [] [4, 64] ?_
  refine AW.tt h (fun hb66 h => ?_) fun hb66 h => ?_
  ·refine AW.sk ?_
   exact ja [] h
  refine AW.rp ?_
  exact ja [] h
 refine AW.tt h (fun hb67 h => ?_) fun hb67 h => ?_
 ·refine AW.ro ?_
  refine AW.ret ?_
  cases h; refine nz ?_; exact .same _
 refine AW.jn h (fun v68_0 => [(69, vB v68_0)]) (fun v68_0 => []) (fun oJ69 h => ?_) fun v68_0 h => ?_
 ·refine AW.ro ?_
  refine AW.ks [] [4, 69] ?_
  refine AW.tt h (fun hb70 h => ?_) fun hb70 h => ?_
  ·refine AW.sk ?_
   exact ja [] h
  refine AW.rp ?_
  exact ja [] h
 refine AW.tk h (fun hb71 h => ?_) fun hb71 h => ?_
 ·refine AW.ro ?_
  refine AW.ret ?_
  cases h; refine nz ?_; exact .same _
 refine AW.kr [] [] ?_
 refine AW.ret ?_
 cases h; refine nz ?_; exact .same _
structure Tree_placeA where
 inDiff : Bool
 inFDiff : Bool
 inFlow : Bool
def Tree_placeA.enc (x : Tree_placeA) : List D := [.val (.bool x.inDiff), .val (.bool x.inFDiff), .val (.bool x.inFlow)]
theorem Tree_placeA.enc_eta (x : Tree_placeA) : x.enc = [.val (.bool x.inDiff), .val (.bool x.inFDiff), .val (.bool x.inFlow)] := rfl
attribute [go_sem] Tree_placeA.enc_eta
/-! ### isochrone/tree.formed -/
def tree_formed_body (K : Nat) (self29 : (NodeA × Tree_placeA) → Option Bool) (p0 : NodeA) (p1 : Tree_placeA) : Option Bool := ((
  if (p0.op == (1 : Int)) then
   (tree_natural K p0.num).bind fun r4 =>
   if (!r4) then
    outM (
     some false)
   else
    some (.go ())
  else
   ((
    if p0.num.neg then
     some true
    else
     if (decide ((0 : Int) < (p0.num.num.length : Int))) then
      some true
     else
      some (decide ((0 : Int) < (p0.num.den.length : Int)))) : Option Bool).bind (fun v7_0 =>
   if v7_0 then
    outM (
     some false)
   else
    some (.go ()))) : Option (Out Unit _)).bind (Out.fin fun _ =>
 (tree_shape K p0.op).bind fun r12 =>
 ((
  ((
   if r12.1 then
    (tree_Name K p0.name).bind fun r19 =>
    if (!r19) then
     some true
    else
     some false
   else
    if (!(p0.name.toList == (⟨#[]⟩ : ByteArray).toList)) then
     if (p0.op != (10 : Int)) then
      some (p0.op != (37 : Int))
     else
      some false
    else
     some false) : Option Bool).bind (fun v16_0 =>
  if v16_0 then
   outM (
    some false)
  else
   some (.go ()))) : Option (Out Unit _)).bind (Out.fin fun _ =>
 ((
  ((
   if (p0.op == (10 : Int)) then
    some (p0.op == (10 : Int))
   else
    some (p0.op == (37 : Int))) : Option Bool).bind (fun v27_0 =>
  if v27_0 then
   ((
    ((
     (tree_Name K p0.name).bind fun r35 =>
     if (!r35) then
      some true
     else
      some (decide ((1 : Int) < (p0.kids.length : Int)))) : Option Bool).bind (fun v33_0 =>
    if v33_0 then
     outM (
      outM (
       some false))
    else
     some (.go ()))) : Option (Out Unit _)).bind (Out.fin fun _ =>
   (must r12.2.isNone).bind fun _ =>
   ((iter (S := Int × (List Int)) (R := (List Int)) K (fun again (i44_0, i44_1) =>
    if (decide (i44_0 < (p0.kids.length : Int))) then
     (appO 8 i44_1 [(1 : Int)]).bind fun l49 =>
     again (IntKind.wrap .i64 (i44_0 + (1 : Int)), l49)
    else
     some i44_1) ((0 : Int), [])) : Option (List Int)).bind (fun e45_0 =>
   some (.go (e45_0, p1))))
  else
   if (p0.op == (54 : Int)) then
    ((
     ((
      if (!(p0.name.toList == (⟨#[]⟩ : ByteArray).toList)) then
       some true
      else
       some (decide ((p0.kids.length : Int) < (2 : Int)))) : Option Bool).bind (fun v54_0 =>
     if v54_0 then
      outM (
       outM (
        some false))
     else
      some (.go ()))) : Option (Out Unit _)).bind (Out.fin fun _ =>
    (must r12.2.isNone).bind fun _ =>
    ((iter (S := Int × (List Int)) (R := Out (List Int) _) K (fun again (i63_0, i63_1) =>
     if (decide (i63_0 < (IntKind.wrap .i64 ((p0.kids.length : Int) - (1 : Int))))) then
      ((
       (idx p0.kids i63_0).bind fun x70 =>
       ((
        ((
         if (x70.op != (55 : Int)) then
          if (x70.op != (56 : Int)) then
           some true
          else
           some (i63_0 != (IntKind.wrap .i64 ((IntKind.wrap .i64 ((p0.kids.length : Int) - (1 : Int))) - (1 : Int))))
         else
          some false) : Option Bool).bind (fun v74_0 =>
        if v74_0 then
         outM (
          outM (
           outM (
            outM (
             some false))))
        else
         some (.go ()))) : Option (Out Unit _)).bind (Out.fin fun _ =>
       (cutL p0.kids none (some i63_0)).bind fun s79 =>
       ((iter (S := Int) (R := Out Unit _) K (fun again i81_0 =>
        if (decide (i81_0 < (s79.length : Int))) then
         ((
          (idx s79 i81_0).bind fun x88 =>
          ((
           if (x70.op == (55 : Int)) then
            some (x88.name.toList == x70.name.toList)
           else
            some false) : Option Bool).bind (fun v90_0 =>
          if v90_0 then
           outM (
            outM (
             outM (
              outM (
               outM (
                some false)))))
          else
           some (.go ()))) : Option (Out Unit _)).bind (Out.fin fun _ =>
         again (IntKind.wrap .i64 (i81_0 + (1 : Int))))
        else
         some (.go ())) (0 : Int)) : Option (Out Unit _)).bind (Out.fin fun _ =>
       (appO 8 i63_1 [(4 : Int)]).bind fun l94 =>
       some (.go l94)))) : Option (Out (List Int) _)).bind (Out.fin fun v68_0 =>
      again (IntKind.wrap .i64 (i63_0 + (1 : Int)), v68_0))
     else
      some (.go i63_1)) ((0 : Int), [])) : Option (Out (List Int) _)).bind (Out.fin fun e64_0 =>
    (appO 8 e64_0 [(2 : Int)]).bind fun l96 =>
    some (.go (l96, (Tree_placeA.mk p1.inDiff p1.inFDiff true)))))
   else
    if (p0.op == (3 : Int)) then
     ((
      if p1.inDiff then
       some true
      else
       if p1.inFDiff then
        some true
       else
        some p1.inFlow) : Option Bool).bind (fun v99_0 =>
     if v99_0 then
      outM (
       some false)
     else
      some (.go ((r12.2.getD []), p1)))
    else
     if (p0.op == (12 : Int)) then
      ((
       ((
        if p1.inDiff then
         some true
        else
         some p1.inFlow) : Option Bool).bind (fun v107_0 =>
       if v107_0 then
        outM (
         outM (
          some false))
       else
        some (.go ()))) : Option (Out Unit _)).bind (Out.fin fun _ =>
      some (.go ((r12.2.getD []), (Tree_placeA.mk true p1.inFDiff p1.inFlow))))
     else
      if (p0.op == (39 : Int)) then
       ((
        ((
         if p1.inFlow then
          some true
         else
          if ((p0.kids.length : Int) != (1 : Int)) then
           some true
          else
           (idx p0.kids (0 : Int)).bind fun x118 =>
           (tree_differentiable K x118).bind fun r120 =>
           some (!r120)) : Option Bool).bind (fun v114_0 =>
        if v114_0 then
         outM (
          outM (
           some false))
        else
         some (.go ()))) : Option (Out Unit _)).bind (Out.fin fun _ =>
       some (.go ((r12.2.getD []), (Tree_placeA.mk p1.inDiff true p1.inFlow))))
      else
       some (.go ((r12.2.getD []), p1)))) : Option (Out ((List Int) × Tree_placeA) _)).bind (Out.fin fun (v25_0, v25_1) =>
 if ((p0.kids.length : Int) != (v25_0.length : Int)) then
  some false
 else
  ((iter (S := Int) (R := Out Unit _) K (fun again i124_0 =>
   if (decide (i124_0 < (p0.kids.length : Int))) then
    ((
     (idx p0.kids i124_0).bind fun x131 =>
     ((
      (tree_Sort K x131.op).bind fun r135 =>
      (idx v25_0 i124_0).bind fun x137 =>
      if (r135 != x137) then
       some true
      else
       (self29 (x131, v25_1)).bind fun r140 =>
       some (!r140)) : Option Bool).bind (fun v133_0 =>
     if v133_0 then
      outM (
       outM (
        some false))
     else
      some (.go ()))) : Option (Out Unit _)).bind (Out.fin fun _ =>
    again (IntKind.wrap .i64 (i124_0 + (1 : Int))))
   else
    some (.go ())) (0 : Int)) : Option (Out Unit _)).bind (Out.fin fun _ =>
  if (p0.op == (8 : Int)) then
   (idx p0.kids (1 : Int)).bind fun x144 =>
   if (x144.op == (1 : Int)) then
    some (decide ((0 : Int) < (x144.num.num.length : Int)))
   else
    some false
  else
   if (p0.op == (9 : Int)) then
    (idx p0.kids (1 : Int)).bind fun x148 =>
    if (x148.op == (1 : Int)) then
     if ((x148.num.num.length : Int) == (0 : Int)) then
      some true
     else
      if ((x148.num.num.length : Int) == (1 : Int)) then
       (idx x148.num.num (0 : Int)).bind fun x153 =>
       some (decide (x153 ≤ (20 : Int)))
      else
       some false
    else
     some false
   else
    some true))))
set_option maxHeartbeats 4000000 in
theorem tree_formed_step (K : Nat) (self29 : (NodeA × Tree_placeA) → Option Bool) (hself29 : ∀ (q : NodeA × Tree_placeA) (r : Bool), self29 q = some r → Cn Tryz.prog 29 [aggV q.1.enc, aggV q.2.enc] (.d (.val (.bool r)))) (p0 : NodeA) (p1 : Tree_placeA) (r : Bool) (h : tree_formed_body K self29 p0 p1 = some r) : Cn Tryz.prog 29 [aggV p0.enc, aggV p1.enc] (.d (.val (.bool r))) := by
 refine Cn.oz Tryz.func29 Tryz.call29 Tryz.ntmps29 Tryz.results29 fun hfit => ?_
 unfold tree_formed_body at h
 refine AW.kr [] [0, 1] ?_
 refine AW.ks [0, 1] [2, 3] ?_
 refine AW.jo h (fun _ => [(2, .ptr 0 6 0 0), (3, .ptr 1 3 0 0)]) (fun _ => [vE p0.enc, vE p1.enc]) (fun oJ2 h hJ2 => ?_) fun ⟨⟩ h => ?_
 ·refine AW.ro ?_
  refine AW.ks [0, 1] [2, 3, 17] ?_
  refine AW.tt h (fun hb3 h => ?_) fun hb3 h => ?_
  ·refine AW.ro ?_
   refine cm h tree_natural_ok fun r4 hx5 h => ?_
   refine AW.ks [0, 1] [2, 3, 21] ?_
   refine AW.tk h (fun hb6 h => ?_) fun hb6 h => ?_
   ·refine AW.ro ?_
    refine AW.ret ?_
    have h := up h hJ2
    cases h; refine nz ?_; exact .same _
   exact jo [0, 1] h
  refine AW.jn h (fun v7_0 => [(2, .ptr 0 6 0 0), (3, .ptr 1 3 0 0), (38, vB v7_0)]) (fun v7_0 => [vE p0.enc, vE p1.enc]) (fun oJ8 h => ?_) fun v7_0 h => ?_
  ·refine AW.rp ?_
   refine sK h (fun hb9 h => ?_) fun hb9 h => ?_
   ·exact ja [0, 1] h
   refine sK h (fun hb10 h => ?_) fun hb10 h => ?_
   ·exact ja [0, 1] h
   exact ja [0, 1] h
  refine AW.tk h (fun hb11 h => ?_) fun hb11 h => ?_
  ·refine AW.ro ?_
   refine AW.ret ?_
   have h := up h hJ2
   cases h; refine nz ?_; exact .same _
  exact jo [0, 1] h
 refine AW.ro ?_
 refine cm h tree_shape_ok fun r12 hx13 h => ?_
 refine AW.ks [0, 1] [2, 3, 5, 6] ?_
 refine AW.jo h (fun _ => [(2, .ptr 0 6 0 0), (3, .ptr 1 3 0 0), (6, nilV i64V r12.2)]) (fun _ => [vE p0.enc, vE p1.enc]) (fun oJ15 h hJ15 => ?_) fun ⟨⟩ h => ?_
 ·refine AW.jn h (fun v16_0 => [(2, .ptr 0 6 0 0), (3, .ptr 1 3 0 0), (6, nilV i64V r12.2), (70, vB v16_0)]) (fun v16_0 => [vE p0.enc, vE p1.enc]) (fun oJ17 h => ?_) fun v16_0 h => ?_
  ·refine AW.rp ?_
   refine sK h (fun hb18 h => ?_) fun hb18 h => ?_
   ·refine cm h tree_Name_ok fun r19 hx20 h => ?_
    refine sK h (fun hb21 h => ?_) fun hb21 h => ?_
    ·exact ja [0, 1] h
    exact ja [0, 1] h
   refine sK h (fun hb22 h => ?_) fun hb22 h => ?_
   ·refine sK h (fun hb23 h => ?_) fun hb23 h => ?_
    ·exact ja [0, 1] h
    exact ja [0, 1] h
   exact ja [0, 1] h
  refine AW.tk h (fun hb24 h => ?_) fun hb24 h => ?_
  ·refine AW.ro ?_
   refine AW.ret ?_
   have h := up h hJ15
   cases h; refine nz ?_; exact .same _
  exact jo [0, 1] h
 refine AW.jo h (fun (v25_0, v25_1) => [(2, .ptr 0 6 0 0), (3, .ptr 1 3 0 0), (6, vL i64V v25_0)]) (fun (v25_0, v25_1) => [vE p0.enc, vE v25_1.enc]) (fun oJ26 h hJ26 => ?_) fun ⟨v25_0, v25_1⟩ h => ?_
 ·refine AW.ro ?_
  refine AW.ks [0, 1] [2, 3, 6, 72] ?_
  refine AW.block ?_
  refine AW.jn h (fun v27_0 => [(2, .ptr 0 6 0 0), (3, .ptr 1 3 0 0), (6, nilV i64V r12.2), (72, vI p0.op), (73, vB v27_0)]) (fun v27_0 => [vE p0.enc, vE p1.enc]) (fun oJ28 h => ?_) fun v27_0 h => ?_
  ·refine AW.ro ?_
   refine AW.ks [0, 1] [2, 3, 6, 72, 73] ?_
   refine AW.tt h (fun hb29 h => ?_) fun hb29 h => ?_
   ·refine AW.sk ?_
    exact ja [0, 1] h
   refine AW.rp ?_
   exact ja [0, 1] h
  refine AW.tt h (fun hb30 h => ?_) fun hb30 h => ?_
  ·refine AW.jo h (fun _ => [(2, .ptr 0 6 0 0), (3, .ptr 1 3 0 0), (6, nilV i64V r12.2)]) (fun _ => [vE p0.enc, vE p1.enc]) (fun oJ32 h hJ32 => ?_) fun ⟨⟩ h => ?_
   ·refine AW.jn h (fun v33_0 => [(2, .ptr 0 6 0 0), (3, .ptr 1 3 0 0), (6, nilV i64V r12.2), (85, vB v33_0)]) (fun v33_0 => [vE p0.enc, vE p1.enc]) (fun oJ34 h => ?_) fun v33_0 h => ?_
    ·refine AW.rp ?_
     refine cm h tree_Name_ok fun r35 hx36 h => ?_
     refine sK h (fun hb37 h => ?_) fun hb37 h => ?_
     ·exact ja [0, 1] h
     exact ja [0, 1] h
    refine AW.tk h (fun hb38 h => ?_) fun hb38 h => ?_
    ·refine AW.ro ?_
     refine AW.ret ?_
     have h := up h hJ32
     have h := up h hJ26
     cases h; refine nz ?_; exact .same _
    exact jo [0, 1] h
   refine AW.ro ?_
   refine AW.ks [0, 1] [2, 3, 6, 88, 89] ?_
   apply bE h; intro _ hx43 h; have hx43 := must_none hx43
   refine AW.ks [0, 1] [2, 3, 6, 88, 89] ?_
   refine AW.lm h (fun e45_0 => [(2, .ptr 0 6 0 0), (3, .ptr 1 3 0 0), (6, accV 2 1 ((e45_0.map i64V).map (·.map .d)))]) (fun e45_0 => [vE p0.enc, vE p1.enc, accO 1 ((e45_0.map i64V).map (·.map .d))]) (fun (i44_0, i44_1) => [(2, .ptr 0 6 0 0), (3, .ptr 1 3 0 0), (6, accV 2 1 ((i44_1.map i64V).map (·.map .d))), (88, vI (p0.kids.length : Int)), (89, vI i44_0)]) (fun (i44_0, i44_1) => [vE p0.enc, vE p1.enc, accO 1 ((i44_1.map i64V).map (·.map .d))]) [0, 1, 1002] (fun oJ47 again ⟨i44_0, i44_1⟩ h => ?_) fun e45_0 h => ?_
   ·try dsimp only at h
    refine AW.ro ?_
    refine AW.ks [0, 1, 2] [2, 3, 6, 88, 89, 90] ?_
    refine AW.one ?_
    refine AW.tt h (fun hb48 h => ?_) fun hb48 h => ?_
    ·refine AW.sk ?_
     refine AW.ks [0, 1, 2] [2, 3, 6, 88, 89] ?_
     refine AW.one ?_
     refine AW.block ?_
     refine AW.rp ?_
     refine ag (f := i64V) h fun l49 hx50 h => ?_
     refine AW.ks [0, 1, 5] [2, 3, 6, 88, 89] ?_
     refine AW.rp ?_
     exact na [0, 1, 2] h
    refine AW.ex ?_
    exact ja [0, 1, 2] h
   refine JoinQ.mkS (e45_0, p1) [0, 1] [2] [(6, .d (slD i64V e45_0))] [] (Option.some.inj h).symm (by simp only [go_sem, reduceEqDiff, reduceAdd, reduceSub, reduceMul, reduceLeDiff, reduceLT, Nat.reduceBEq, reduceIte, sealL_cons, sealL_nil]; exact sealAcc (by simp only [go_sem, reduceEqDiff, reduceAdd, reduceSub, reduceMul, reduceLeDiff, reduceLT, Nat.reduceBEq, reduceIte])) (by simp only [go_sem, reduceEqDiff, reduceAdd, reduceSub, reduceMul, reduceLeDiff, reduceLT, Nat.reduceBEq, reduceIte, sealH_cons, sealH_nil]) (by simp only [go_sem, reduceEqDiff, reduceAdd, reduceSub, reduceMul, reduceLeDiff, reduceLT, Nat.reduceBEq, reduceIte])
  refine AW.ro ?_
  refine AW.ks [0, 1] [2, 3, 6, 72, 95] ?_
  refine AW.tt h (fun hb51 h => ?_) fun hb51 h => ?_
  ·refine AW.jo h (fun _ => [(2, .ptr 0 6 0 0), (3, .ptr 1 3 0 0), (6, nilV i64V r12.2)]) (fun _ => [vE p0.enc, vE p1.enc]) (fun oJ53 h hJ53 => ?_) fun ⟨⟩ h => ?_
   ·refine AW.jn h (fun v54_0 => [(2, .ptr 0 6 0 0), (3, .ptr 1 3 0 0), (6, nilV i64V r12.2), (105, vB v54_0)]) (fun v54_0 => [vE p0.enc, vE p1.enc]) (fun oJ55 h => ?_) fun v54_0 h => ?_
    ·refine AW.rp ?_
     refine sK h (fun hb56 h => ?_) fun hb56 h => ?_
     ·exact ja [0, 1] h
     exact ja [0, 1] h
    refine AW.tk h (fun hb57 h => ?_) fun hb57 h => ?_
    ·refine AW.ro ?_
     refine AW.ret ?_
     have h := up h hJ53
     have h := up h hJ26
     cases h; refine nz ?_; exact .same _
    exact jo [0, 1] h
   refine AW.ro ?_
   refine AW.ks [0, 1] [2, 3, 6, 7] ?_
   refine AW.one ?_
   refine AW.ro ?_
   refine AW.ks [0, 1] [2, 3, 6, 7, 8] ?_
   apply bE h; intro _ hx62 h; have hx62 := must_none hx62
   refine AW.ks [0, 1] [2, 3, 6, 7, 8] ?_
   refine AW.lp h (fun e64_0 => [(2, .ptr 0 6 0 0), (3, .ptr 1 3 0 0), (6, accV 2 1 ((e64_0.map i64V).map (·.map .d)))]) (fun e64_0 => [vE p0.enc, vE p1.enc, accO 1 ((e64_0.map i64V).map (·.map .d))]) (fun (i63_0, i63_1) => [(2, .ptr 0 6 0 0), (3, .ptr 1 3 0 0), (6, accV 2 1 ((i63_1.map i64V).map (·.map .d))), (7, vI (IntKind.wrap .i64 ((p0.kids.length : Int) - (1 : Int)))), (8, vI i63_0)]) (fun (i63_0, i63_1) => [vE p0.enc, vE p1.enc, accO 1 ((i63_1.map i64V).map (·.map .d))]) [0, 1, 1002] (fun oJ66 hJ66 again ⟨i63_0, i63_1⟩ h => ?_) fun e64_0 h => ?_
   ·try dsimp only at h
    refine AW.one ?_
    refine AW.ro ?_
    refine AW.ks [0, 1, 2] [2, 3, 6, 7, 8, 112] ?_
    refine AW.tt h (fun hb67 h => ?_) fun hb67 h => ?_
    ·refine AW.sk ?_
     refine AW.ks [0, 1, 2] [2, 3, 6, 7, 8] ?_
     refine AW.jo h (fun v68_0 => [(2, .ptr 0 6 0 0), (3, .ptr 1 3 0 0), (6, accV 2 1 ((v68_0.map i64V).map (·.map .d))), (7, vI (IntKind.wrap .i64 ((p0.kids.length : Int) - (1 : Int)))), (8, vI i63_0)]) (fun v68_0 => [vE p0.enc, vE p1.enc, accO 1 ((v68_0.map i64V).map (·.map .d))]) (fun oJ69 h hJ69 => ?_) fun v68_0 h => ?_
     ·refine AW.block ?_
      refine AW.ro ?_
      refine bx h fun x70 h0 h1 h => ?_
      refine AW.ks [0, 1, 2, 8] [2, 3, 6, 7, 8, 9] ?_
      refine AW.jo h (fun _ => [(2, .ptr 0 6 0 0), (3, .ptr 1 3 0 0), (6, accV 2 1 ((i63_1.map i64V).map (·.map .d))), (7, vI (IntKind.wrap .i64 ((p0.kids.length : Int) - (1 : Int)))), (8, vI i63_0), (9, .ptr 3 6 0 0)]) (fun _ => [vE p0.enc, vE p1.enc, accO 1 ((i63_1.map i64V).map (·.map .d)), vE x70.enc]) (fun oJ73 h hJ73 => ?_) fun ⟨⟩ h => ?_
      ·refine AW.jn h (fun v74_0 => [(2, .ptr 0 6 0 0), (3, .ptr 1 3 0 0), (6, accV 2 1 ((i63_1.map i64V).map (·.map .d))), (7, vI (IntKind.wrap .i64 ((p0.kids.length : Int) - (1 : Int)))), (8, vI i63_0), (9, .ptr 3 6 0 0), (133, vB v74_0)]) (fun v74_0 => [vE p0.enc, vE p1.enc, accO 1 ((i63_1.map i64V).map (·.map .d)), vE x70.enc]) (fun oJ75 h => ?_) fun v74_0 h => ?_
       ·refine AW.rp ?_
        refine sK h (fun hb76 h => ?_) fun hb76 h => ?_
        ·refine sK h (fun hb77 h => ?_) fun hb77 h => ?_
         ·exact ja [0, 1, 2, 3] h
         exact ja [0, 1, 2, 3] h
        exact ja [0, 1, 2, 3] h
       refine AW.tk h (fun hb78 h => ?_) fun hb78 h => ?_
       ·refine AW.ro ?_
        refine AW.ret ?_
        have h := up h hJ73
        have h := up h hJ69
        have h := up h hJ66
        have h := up h hJ26
        cases h; refine nz ?_; exact .same _
       exact jo [0, 1, 2, 3] h
      refine AW.one ?_
      refine AW.ro ?_
      refine bb h fun s79 hx80 h => ?_
      refine AW.ks [0, 1, 2, 3] [2, 3, 6, 7, 8, 9, 137, 138, 139] ?_
      refine AW.lp h (fun _ => [(2, .ptr 0 6 0 0), (3, .ptr 1 3 0 0), (6, accV 2 1 ((i63_1.map i64V).map (·.map .d))), (7, vI (IntKind.wrap .i64 ((p0.kids.length : Int) - (1 : Int)))), (8, vI i63_0)]) (fun _ => [vE p0.enc, vE p1.enc, accO 1 ((i63_1.map i64V).map (·.map .d))]) (fun i81_0 => [(2, .ptr 0 6 0 0), (3, .ptr 1 3 0 0), (6, accV 2 1 ((i63_1.map i64V).map (·.map .d))), (7, vI (IntKind.wrap .i64 ((p0.kids.length : Int) - (1 : Int)))), (8, vI i63_0), (9, .ptr 3 6 0 0), (137, vL NodeA.enc s79), (138, vI (s79.length : Int)), (139, vI i81_0)]) (fun i81_0 => [vE p0.enc, vE p1.enc, accO 1 ((i63_1.map i64V).map (·.map .d)), vE x70.enc]) [0, 1, 2, 3] (fun oJ84 hJ84 again i81_0 h => ?_) fun ⟨⟩ h => ?_
      ·refine AW.ro ?_
       refine AW.ks [0, 1, 2, 3] [2, 3, 6, 7, 8, 9, 137, 138, 139, 140] ?_
       refine AW.one ?_
       refine AW.tt h (fun hb85 h => ?_) fun hb85 h => ?_
       ·refine AW.sk ?_
        refine AW.ks [0, 1, 2, 3] [2, 3, 6, 7, 8, 9, 137, 138, 139] ?_
        refine AW.jo h (fun _ => [(2, .ptr 0 6 0 0), (3, .ptr 1 3 0 0), (6, accV 2 1 ((i63_1.map i64V).map (·.map .d))), (7, vI (IntKind.wrap .i64 ((p0.kids.length : Int) - (1 : Int)))), (8, vI i63_0), (9, .ptr 3 6 0 0), (137, vL NodeA.enc s79), (138, vI (s79.length : Int)), (139, vI i81_0)]) (fun _ => [vE p0.enc, vE p1.enc, accO 1 ((i63_1.map i64V).map (·.map .d)), vE x70.enc]) (fun oJ87 h hJ87 => ?_) fun ⟨⟩ h => ?_
        ·refine AW.block ?_
         refine AW.ro ?_
         refine bx h fun x88 h0 h1 h => ?_
         refine AW.ks [0, 1, 2, 3, 6] [2, 3, 6, 7, 8, 9, 11, 137, 138, 139] ?_
         refine AW.jn h (fun v90_0 => [(2, .ptr 0 6 0 0), (3, .ptr 1 3 0 0), (6, accV 2 1 ((i63_1.map i64V).map (·.map .d))), (7, vI (IntKind.wrap .i64 ((p0.kids.length : Int) - (1 : Int)))), (8, vI i63_0), (9, .ptr 3 6 0 0), (137, vL NodeA.enc s79), (138, vI (s79.length : Int)), (139, vI i81_0), (152, vB v90_0)]) (fun v90_0 => [vE p0.enc, vE p1.enc, accO 1 ((i63_1.map i64V).map (·.map .d)), vE x70.enc]) (fun oJ91 h => ?_) fun v90_0 h => ?_
         ·refine AW.rp ?_
          refine sK h (fun hb92 h => ?_) fun hb92 h => ?_
          ·exact ja [0, 1, 2, 3] h
          exact ja [0, 1, 2, 3] h
         refine AW.tk h (fun hb93 h => ?_) fun hb93 h => ?_
         ·refine AW.ro ?_
          refine AW.ret ?_
          have h := up h hJ87
          have h := up h hJ84
          have h := up h hJ69
          have h := up h hJ66
          have h := up h hJ26
          cases h; refine nz ?_; exact .same _
         exact jo [0, 1, 2, 3] h
        refine AW.rp ?_
        exact na [0, 1, 2, 3] h
       refine AW.ex ?_
       exact jo [0, 1, 2] h
      refine AW.ks [0, 1, 2] [2, 3, 6, 7, 8] ?_
      refine AW.rp ?_
      refine ag (f := i64V) h fun l94 hx95 h => ?_
      exact jo [0, 1, 5] h
     refine AW.rp ?_
     exact na [0, 1, 2] h
    refine AW.ex ?_
    exact jo [0, 1, 2] h
   refine AW.kr [0, 1, 2] [2, 3, 6] ?_
   refine ag (f := i64V) h fun l96 hx97 h => ?_
   refine AW.ks [0, 1, 5] [2, 3, 6] ?_
   refine AW.rp ?_
   refine JoinQ.mkS (l96, (Tree_placeA.mk p1.inDiff p1.inFDiff true)) [0, 1] [2] [(6, .d (slD i64V l96))] [] (Option.some.inj h).symm (by simp only [go_sem, reduceEqDiff, reduceAdd, reduceSub, reduceMul, reduceLeDiff, reduceLT, Nat.reduceBEq, reduceIte, sealL_cons, sealL_nil]; exact sealAcc (by simp only [go_sem, reduceEqDiff, reduceAdd, reduceSub, reduceMul, reduceLeDiff, reduceLT, Nat.reduceBEq, reduceIte])) (by simp only [go_sem, reduceEqDiff, reduceAdd, reduceSub, reduceMul, reduceLeDiff, reduceLT, Nat.reduceBEq, reduceIte, sealH_cons, sealH_nil]) (by simp only [go_sem, reduceEqDiff, reduceAdd, reduceSub, reduceMul, reduceLeDiff, reduceLT, Nat.reduceBEq, reduceIte])
  refine AW.ro ?_
  refine AW.ks [0, 1] [2, 3, 6, 72, 161] ?_
  refine AW.tt h (fun hb98 h => ?_) fun hb98 h => ?_
  ·refine AW.jn h (fun v99_0 => [(2, .ptr 0 6 0 0), (3, .ptr 1 3 0 0), (6, nilV i64V r12.2), (172, vB v99_0)]) (fun v99_0 => [vE p0.enc, vE p1.enc]) (fun oJ100 h => ?_) fun v99_0 h => ?_
   ·refine AW.rp ?_
    refine sK h (fun hb101 h => ?_) fun hb101 h => ?_
    ·exact ja [0, 1] h
    refine sK h (fun hb102 h => ?_) fun hb102 h => ?_
    ·exact ja [0, 1] h
    exact ja [0, 1] h
   refine AW.tk h (fun hb103 h => ?_) fun hb103 h => ?_
   ·refine AW.ro ?_
    refine AW.ret ?_
    have h := up h hJ26
    cases h; refine nz ?_; exact .same _
   refine JoinQ.mkS ((r12.2.getD []), p1) [0, 1] [] [(6, .d (slD i64V (r12.2.getD [])))] [] (Option.some.inj h).symm (by simp only [go_sem, reduceEqDiff, reduceAdd, reduceSub, reduceMul, reduceLeDiff, reduceLT, Nat.reduceBEq, reduceIte, sealL_cons, sealL_nil]; exact sealNil) (by simp only [go_sem, reduceEqDiff, reduceAdd, reduceSub, reduceMul, reduceLeDiff, reduceLT, Nat.reduceBEq, reduceIte, sealH_cons, sealH_nil]) (by simp only [go_sem, reduceEqDiff, reduceAdd, reduceSub, reduceMul, reduceLeDiff, reduceLT, Nat.reduceBEq, reduceIte])
  refine AW.ro ?_
  refine AW.ks [0, 1] [2, 3, 6, 72, 173] ?_
  refine AW.tt h (fun hb104 h => ?_) fun hb104 h => ?_
  ·refine AW.jo h (fun _ => [(2, .ptr 0 6 0 0), (3, .ptr 1 3 0 0), (6, nilV i64V r12.2)]) (fun _ => [vE p0.enc, vE p1.enc]) (fun oJ106 h hJ106 => ?_) fun ⟨⟩ h => ?_
   ·refine AW.jn h (fun v107_0 => [(2, .ptr 0 6 0 0), (3, .ptr 1 3 0 0), (6, nilV i64V r12.2), (180, vB v107_0)]) (fun v107_0 => [vE p0.enc, vE p1.enc]) (fun oJ108 h => ?_) fun v107_0 h => ?_
    ·refine AW.rp ?_
     refine sK h (fun hb109 h => ?_) fun hb109 h => ?_
     ·exact ja [0, 1] h
     exact ja [0, 1] h
    refine AW.tk h (fun hb110 h => ?_) fun hb110 h => ?_
    ·refine AW.ro ?_
     refine AW.ret ?_
     have h := up h hJ106
     have h := up h hJ26
     cases h; refine nz ?_; exact .same _
    exact jo [0, 1] h
   refine AW.rp ?_
   refine JoinQ.mkS ((r12.2.getD []), (Tree_placeA.mk true p1.inFDiff p1.inFlow)) [0, 1] [] [(6, .d (slD i64V (r12.2.getD [])))] [] (Option.some.inj h).symm (by simp only [go_sem, reduceEqDiff, reduceAdd, reduceSub, reduceMul, reduceLeDiff, reduceLT, Nat.reduceBEq, reduceIte, sealL_cons, sealL_nil]; exact sealNil) (by simp only [go_sem, reduceEqDiff, reduceAdd, reduceSub, reduceMul, reduceLeDiff, reduceLT, Nat.reduceBEq, reduceIte, sealH_cons, sealH_nil]) (by simp only [go_sem, reduceEqDiff, reduceAdd, reduceSub, reduceMul, reduceLeDiff, reduceLT, Nat.reduceBEq, reduceIte])
  refine AW.ro ?_
  refine AW.ks [0, 1] [2, 3, 6, 182] ?_
  refine AW.tk h (fun hb111 h => ?_) fun hb111 h => ?_
  ·refine AW.jo h (fun _ => [(2, .ptr 0 6 0 0), (3, .ptr 1 3 0 0), (6, nilV i64V r12.2)]) (fun _ => [vE p0.enc, vE p1.enc]) (fun oJ113 h hJ113 => ?_) fun ⟨⟩ h => ?_
   ·refine AW.jn h (fun v114_0 => [(2, .ptr 0 6 0 0), (3, .ptr 1 3 0 0), (6, nilV i64V r12.2), (199, vB v114_0)]) (fun v114_0 => [vE p0.enc, vE p1.enc]) (fun oJ115 h => ?_) fun v114_0 h => ?_
    ·refine AW.rp ?_
     refine sK h (fun hb116 h => ?_) fun hb116 h => ?_
     ·exact ja [0, 1] h
     refine sK h (fun hb117 h => ?_) fun hb117 h => ?_
     ·exact ja [0, 1] h
     refine bx h fun x118 h0 h1 h => ?_
     refine cm h tree_differentiable_ok fun r120 hx121 h => ?_
     exact ja [0, 1] h
    refine AW.tk h (fun hb122 h => ?_) fun hb122 h => ?_
    ·refine AW.ro ?_
     refine AW.ret ?_
     have h := up h hJ113
     have h := up h hJ26
     cases h; refine nz ?_; exact .same _
    exact jo [0, 1] h
   refine AW.rp ?_
   refine JoinQ.mkS ((r12.2.getD []), (Tree_placeA.mk p1.inDiff true p1.inFlow)) [0, 1] [] [(6, .d (slD i64V (r12.2.getD [])))] [] (Option.some.inj h).symm (by simp only [go_sem, reduceEqDiff, reduceAdd, reduceSub, reduceMul, reduceLeDiff, reduceLT, Nat.reduceBEq, reduceIte, sealL_cons, sealL_nil]; exact sealNil) (by simp only [go_sem, reduceEqDiff, reduceAdd, reduceSub, reduceMul, reduceLeDiff, reduceLT, Nat.reduceBEq, reduceIte, sealH_cons, sealH_nil]) (by simp only [go_sem, reduceEqDiff, reduceAdd, reduceSub, reduceMul, reduceLeDiff, reduceLT, Nat.reduceBEq, reduceIte])
  refine JoinQ.mkS ((r12.2.getD []), p1) [0, 1] [] [(6, .d (slD i64V (r12.2.getD [])))] [] (Option.some.inj h).symm (by simp only [go_sem, reduceEqDiff, reduceAdd, reduceSub, reduceMul, reduceLeDiff, reduceLT, Nat.reduceBEq, reduceIte, sealL_cons, sealL_nil]; exact sealNil) (by simp only [go_sem, reduceEqDiff, reduceAdd, reduceSub, reduceMul, reduceLeDiff, reduceLT, Nat.reduceBEq, reduceIte, sealH_cons, sealH_nil]) (by simp only [go_sem, reduceEqDiff, reduceAdd, reduceSub, reduceMul, reduceLeDiff, reduceLT, Nat.reduceBEq, reduceIte])
 try dsimp only at h
 refine AW.one ?_
 refine AW.ro ?_
 refine AW.ks [0, 1] [2, 3, 6, 206] ?_
 refine AW.tk h (fun hb123 h => ?_) fun hb123 h => ?_
 ·refine AW.ro ?_
  refine AW.ret ?_
  cases h; refine nz ?_; exact .same _
 refine AW.ks [0, 1] [2, 3, 6] ?_
 refine AW.one ?_
 refine AW.ro ?_
 refine AW.ks [0, 1] [2, 3, 6, 208, 209, 210] ?_
 refine AW.lp h (fun _ => [(2, .ptr 0 6 0 0)]) (fun _ => [vE p0.enc]) (fun i124_0 => [(2, .ptr 0 6 0 0), (3, .ptr 1 3 0 0), (6, vL i64V v25_0), (208, vL NodeA.enc p0.kids), (209, vI (p0.kids.length : Int)), (210, vI i124_0)]) (fun i124_0 => [vE p0.enc, vE v25_1.enc]) [0, 1] (fun oJ127 hJ127 again i124_0 h => ?_) fun ⟨⟩ h => ?_
 ·refine AW.ro ?_
  refine AW.ks [0, 1] [2, 3, 6, 208, 209, 210, 211] ?_
  refine AW.one ?_
  refine AW.tt h (fun hb128 h => ?_) fun hb128 h => ?_
  ·refine AW.sk ?_
   refine AW.ks [0, 1] [2, 3, 6, 208, 209, 210] ?_
   refine AW.jo h (fun _ => [(2, .ptr 0 6 0 0), (3, .ptr 1 3 0 0), (6, vL i64V v25_0), (208, vL NodeA.enc p0.kids), (209, vI (p0.kids.length : Int)), (210, vI i124_0)]) (fun _ => [vE p0.enc, vE v25_1.enc]) (fun oJ130 h hJ130 => ?_) fun ⟨⟩ h => ?_
   ·refine AW.block ?_
    refine AW.ro ?_
    refine bx h fun x131 h0 h1 h => ?_
    refine AW.ks [0, 1, 5] [2, 3, 6, 12, 13, 208, 209, 210] ?_
    refine AW.jn h (fun v133_0 => [(2, .ptr 0 6 0 0), (3, .ptr 1 3 0 0), (6, vL i64V v25_0), (208, vL NodeA.enc p0.kids), (209, vI (p0.kids.length : Int)), (210, vI i124_0), (228, vB v133_0)]) (fun v133_0 => [vE p0.enc, vE v25_1.enc]) (fun oJ134 h => ?_) fun v133_0 h => ?_
    ·refine AW.rp ?_
     refine pm h tree_Sort_ok fun r135 hx136 h => ?_
     refine bx h fun x137 h0 h1 h => ?_
     refine sK h (fun hb139 h => ?_) fun hb139 h => ?_
     ·exact ja [0, 1] h
     refine pm h (hself29 _ _) fun r140 hx141 h => ?_
     exact ja [0, 1] h
    refine AW.tk h (fun hb142 h => ?_) fun hb142 h => ?_
    ·refine AW.ro ?_
     refine AW.ret ?_
     have h := up h hJ130
     have h := up h hJ127
     cases h; refine nz ?_; exact .same _
    exact jo [0, 1] h
   refine AW.rp ?_
   exact na [0, 1] h
  refine AW.ex ?_
  exact jo [0] h
 refine AW.ks [0] [2] ?_
 refine AW.one ?_
 refine AW.ro ?_
 refine AW.ks [0] [2, 232] ?_
 refine AW.tk h (fun hb143 h => ?_) fun hb143 h => ?_
 ·refine AW.ro ?_
  refine bx h fun x144 h0 h1 h => ?_
  refine sK h (fun hb146 h => ?_) fun hb146 h => ?_
  ·refine AW.ret ?_
   cases h; refine nz ?_; exact .same _
  refine AW.ret ?_
  cases h; refine nz ?_; exact .same _
 refine AW.ks [0] [2] ?_
 refine AW.one ?_
 refine AW.ro ?_
 refine AW.ks [0] [2, 251] ?_
 refine AW.tk h (fun hb147 h => ?_) fun hb147 h => ?_
 ·refine AW.ro ?_
  refine bx h fun x148 h0 h1 h => ?_
  refine AW.kr [5] [14] ?_
  refine sK h (fun hb150 h => ?_) fun hb150 h => ?_
  ·refine sK h (fun hb151 h => ?_) fun hb151 h => ?_
   ·refine AW.ret ?_
    cases h; refine nz ?_; exact .same _
   refine sK h (fun hb152 h => ?_) fun hb152 h => ?_
   ·refine bx h fun x153 h0 h1 h => ?_
    refine AW.ret ?_
    cases h; refine nz ?_; exact .same _
   refine AW.ret ?_
   cases h; refine nz ?_; exact .same _
  refine AW.ret ?_
  cases h; refine nz ?_; exact .same _
 refine AW.kr [] [] ?_
 refine AW.ret ?_
 cases h; refine nz ?_; exact .same _
def tree_formed (K : Nat) (p0 : NodeA) (p1 : Tree_placeA) : Option Bool := iter K (fun self q => tree_formed_body K self q.1 q.2) (p0, p1)
theorem key_tree_formed {K : Nat} (k : Nat) : (∀ (q : NodeA × Tree_placeA) (r : Bool), iter k (fun self q => tree_formed_body K self q.1 q.2) q = some r → Cn Tryz.prog 29 [aggV q.1.enc, aggV q.2.enc] (.d (.val (.bool r)))) := by
 induction k with
 | zero => exact fun q r h => by cases h
 | succ k ih => exact fun q r h => tree_formed_step K _ ih q.1 q.2 r h
theorem tree_formed_ok {K : Nat} {p0 : NodeA} {p1 : Tree_placeA} {r : Bool} (h : tree_formed K p0 p1 = some r) : Cn Tryz.prog 29 [aggV p0.enc, aggV p1.enc] (.d (.val (.bool r))) := (key_tree_formed K) (p0, p1) r h
/-! ### isochrone/tree.within -/
def tree_within_body (K : Nat) (self28 : (NodeA × Int × Int) → Option (Bool × Int)) (p0 : NodeA) (p1 : Int) (p2 : Int) : Option (Bool × Int) := ((
  ((
   if (decide ((IntKind.wrap .i64 (p1 - (1 : Int))) < (0 : Int))) then
    some true
   else
    some (decide (p2 ≤ (0 : Int)))) : Option Bool).bind (fun v3_0 =>
  if v3_0 then
   outM (
    some (false, IntKind.wrap .i64 (p1 - (1 : Int))))
  else
   some (.go ()))) : Option (Out Unit _)).bind (Out.fin fun _ =>
 ((iter (S := Int × Int) (R := Out Int _) K (fun again (i7_0, i7_1) =>
  if (decide (i7_0 < (p0.kids.length : Int))) then
   (idx p0.kids i7_0).bind fun x12 =>
   (self28 (x12, i7_1, IntKind.wrap .i64 (p2 - (1 : Int)))).bind fun r14 =>
   if (!r14.1) then
    outM (
     some (false, r14.2))
   else
    again (IntKind.wrap .i64 (i7_0 + (1 : Int)), r14.2)
  else
   some (.go i7_1)) ((0 : Int), IntKind.wrap .i64 (p1 - (1 : Int)))) : Option (Out Int _)).bind (Out.fin fun e8_0 =>
 some (true, e8_0)))
set_option maxHeartbeats 4000000 in
theorem tree_within_step (K : Nat) (self28 : (NodeA × Int × Int) → Option (Bool × Int)) (hself28 : ∀ (q : NodeA × Int × Int) (r : Bool × Int), self28 q = some r → Cl Tryz.prog 28 [aggV q.1.enc, .ptr 0 1 0 0, .d (.val (.int .i64 q.2.2))] [⟨1, [[.d (.val (.int .i64 q.2.1))]]⟩] (.d (.val (.bool r.1))) [⟨1, [[.d (.val (.int .i64 r.2))]]⟩]) (p0 : NodeA) (p1 : Int) (p2 : Int) (r : Bool × Int) (h : tree_within_body K self28 p0 p1 p2 = some r) : Cl Tryz.prog 28 [aggV p0.enc, .ptr 0 1 0 0, .d (.val (.int .i64 p2))] [⟨1, [[.d (.val (.int .i64 p1))]]⟩] (.d (.val (.bool r.1))) [⟨1, [[.d (.val (.int .i64 r.2))]]⟩] := by
 refine Cl.ofA mixed Tryz.func28 rfl Tryz.call28 Tryz.ntmps28 Tryz.results28 (by simp) rfl (by simp only [go_sem, reduceEqDiff, reduceAdd, reduceSub, reduceMul, reduceLeDiff, reduceLT, Nat.reduceBEq, reduceIte, List.length_cons]) (by simp only [go_sem, reduceEqDiff, reduceAdd, reduceSub, reduceMul, reduceLeDiff, reduceLT, Nat.reduceBEq, reduceIte]) (by simp only [go_sem, reduceEqDiff, reduceAdd, reduceSub, reduceMul, reduceLeDiff, reduceLT, Nat.reduceBEq, reduceIte]) (by simp only [go_sem, reduceEqDiff, reduceAdd, reduceSub, reduceMul, reduceLeDiff, reduceLT, Nat.reduceBEq, reduceIte]) fun hfit => ?_
 unfold tree_within_body at h
 refine AW.kr [0] [0, 1, 2] ?_
 refine AW.kr [0, 1] [1, 2, 3] ?_
 refine AW.ks [0, 1] [1, 2, 3] ?_
 refine AW.jo h (fun _ => [(1, .ptr 0 1 0 0), (2, vI p2), (3, .ptr 1 6 0 0)]) (fun _ => [vE1 (vI (IntKind.wrap .i64 (p1 - (1 : Int)))), vE p0.enc]) (fun oJ2 h hJ2 => ?_) fun ⟨⟩ h => ?_
 ·refine AW.jn h (fun v3_0 => [(1, .ptr 0 1 0 0), (2, vI p2), (3, .ptr 1 6 0 0), (21, vB v3_0)]) (fun v3_0 => [vE1 (vI (IntKind.wrap .i64 (p1 - (1 : Int)))), vE p0.enc]) (fun oJ4 h => ?_) fun v3_0 h => ?_
  ·refine AW.rp ?_
   refine sK h (fun hb5 h => ?_) fun hb5 h => ?_
   ·exact ja [0, 1] h
   exact ja [0, 1] h
  refine AW.tk h (fun hb6 h => ?_) fun hb6 h => ?_
  ·refine AW.ro ?_
   refine AW.ret ?_
   have h := up h hJ2
   cases h; refine nz ?_; exact ⟨.same _, ⟨⟨.same _, trivial⟩, trivial⟩⟩
  exact jo [0, 1] h
 refine AW.one ?_
 refine AW.ro ?_
 refine AW.ks [0] [1, 2, 23, 24, 25] ?_
 refine AW.lp h (fun e8_0 => []) (fun e8_0 => [vE1 (vI e8_0)]) (fun (i7_0, i7_1) => [(1, .ptr 0 1 0 0), (2, vI p2), (23, vL NodeA.enc p0.kids), (24, vI (p0.kids.length : Int)), (25, vI i7_0)]) (fun (i7_0, i7_1) => [vE1 (vI i7_1)]) [0] (fun oJ10 hJ10 again ⟨i7_0, i7_1⟩ h => ?_) fun e8_0 h => ?_
 ·try dsimp only at h
  refine AW.ro ?_
  refine AW.ks [0] [1, 2, 23, 24, 25, 26] ?_
  refine AW.one ?_
  refine AW.tt h (fun hb11 h => ?_) fun hb11 h => ?_
  ·refine AW.sk ?_
   refine AW.ks [0] [1, 2, 23, 24, 25] ?_
   refine AW.one ?_
   refine AW.block ?_
   refine AW.ro ?_
   refine bx h fun x12 h0 h1 h => ?_
   refine AW.kr [0, 3] [1, 2, 8, 23, 24, 25] ?_
   apply bE h; intro r14 hx15 h
   have hc := nx (hself28 _ _ hx15)
   refine callK_loc [0] hc (by simp only [go_sem, reduceEqDiff, reduceAdd, reduceSub, reduceMul, reduceLeDiff, reduceLT, Nat.reduceBEq, reduceIte]) (by simp) (by simp only [go_sem, reduceEqDiff, reduceAdd, reduceSub, reduceMul, reduceLeDiff, reduceLT, Nat.reduceBEq, reduceIte]) ?_
   refine ns ?_
   refine AW.ks [0] [1, 2, 23, 24, 25, 34] ?_
   refine AW.tk h (fun hb16 h => ?_) fun hb16 h => ?_
   ·refine AW.ro ?_
    refine AW.ret ?_
    have h := up h hJ10
    cases h; refine nz ?_; exact ⟨.same _, ⟨⟨.same _, trivial⟩, trivial⟩⟩
   refine AW.ks [0] [1, 2, 23, 24, 25] ?_
   refine AW.rp ?_
   exact na [0] h
  refine AW.ex ?_
  exact jo [0] h
 refine AW.kr [0] [] ?_
 refine AW.ret ?_
 cases h; refine nz ?_; exact ⟨.same _, ⟨⟨.same _, trivial⟩, trivial⟩⟩
def tree_within (K : Nat) (p0 : NodeA) (p1 : Int) (p2 : Int) : Option (Bool × Int) := iter K (fun self q => tree_within_body K self q.1 q.2.1 q.2.2) (p0, p1, p2)
theorem key_tree_within {K : Nat} (k : Nat) : (∀ (q : NodeA × Int × Int) (r : Bool × Int), iter k (fun self q => tree_within_body K self q.1 q.2.1 q.2.2) q = some r → Cl Tryz.prog 28 [aggV q.1.enc, .ptr 0 1 0 0, .d (.val (.int .i64 q.2.2))] [⟨1, [[.d (.val (.int .i64 q.2.1))]]⟩] (.d (.val (.bool r.1))) [⟨1, [[.d (.val (.int .i64 r.2))]]⟩]) := by
 induction k with
 | zero => exact fun q r h => by cases h
 | succ k ih => exact fun q r h => tree_within_step K _ ih q.1 q.2.1 q.2.2 r h
theorem tree_within_ok {K : Nat} {p0 : NodeA} {p1 : Int} {p2 : Int} {r : Bool × Int} (h : tree_within K p0 p1 p2 = some r) : Cl Tryz.prog 28 [aggV p0.enc, .ptr 0 1 0 0, .d (.val (.int .i64 p2))] [⟨1, [[.d (.val (.int .i64 p1))]]⟩] (.d (.val (.bool r.1))) [⟨1, [[.d (.val (.int .i64 r.2))]]⟩] := (key_tree_within K) (p0, p1, p2) r h
/-! ### isochrone/tree.Check -/
def tree_Check (K : Nat) (p0 : NodeA) (p1 : Int) : Option Int := ((
  ((
   if (decide (p1 < (1 : Int))) then
    some true
   else
    some (decide ((3 : Int) < p1))) : Option Bool).bind (fun v3_0 =>
  if v3_0 then
   outM (
    some (1 : Int))
  else
   some (.go ()))) : Option (Out Unit _)).bind (Out.fin fun _ =>
 (tree_within K p0 (4000 : Int) (60 : Int)).bind fun r7 =>
 if (!r7.1) then
  some (2 : Int)
 else
  (tree_Sort K p0.op).bind fun r10 =>
  if (r10 != p1) then
   some (80 : Int)
  else
   (tree_formed K p0 (Tree_placeA.mk false false false)).bind fun r13 =>
   if (!r13) then
    some (3 : Int)
   else
    some (0 : Int))
set_option maxHeartbeats 4000000 in
theorem tree_Check_ok {K : Nat} {p0 : NodeA} {p1 : Int} {r : Int} (h : tree_Check K p0 p1 = some r) : Cn Tryz.prog 16 [aggV p0.enc, .d (.val (.int .i64 p1))] (.d (.val (.int .i64 r))) := by
 refine Cn.oz Tryz.func16 Tryz.call16 Tryz.ntmps16 Tryz.results16 fun hfit => ?_
 unfold tree_Check at h
 refine AW.kr [] [0, 1] ?_
 refine AW.ks [0] [1, 2] ?_
 refine AW.jo h (fun _ => [(1, vI p1), (2, .ptr 0 6 0 0)]) (fun _ => [vE p0.enc]) (fun oJ2 h hJ2 => ?_) fun ⟨⟩ h => ?_
 ·refine AW.jn h (fun v3_0 => [(1, vI p1), (2, .ptr 0 6 0 0), (11, vB v3_0)]) (fun v3_0 => [vE p0.enc]) (fun oJ4 h => ?_) fun v3_0 h => ?_
  ·refine AW.rp ?_
   refine sK h (fun hb5 h => ?_) fun hb5 h => ?_
   ·exact ja [0] h
   exact ja [0] h
  refine AW.tk h (fun hb6 h => ?_) fun hb6 h => ?_
  ·refine AW.ro ?_
   refine AW.ret ?_
   have h := up h hJ2
   cases h; refine nz ?_; exact .same _
  exact jo [0] h
 refine AW.ro ?_
 refine AW.ks [0, 1] [1, 2, 5] ?_
 refine AW.one ?_
 refine AW.ro ?_
 apply bE h; intro r7 hx8 h
 have hc := nx (tree_within_ok (h := hx8))
 refine callK_loc [1] hc (by simp only [go_sem, reduceEqDiff, reduceAdd, reduceSub, reduceMul, reduceLeDiff, reduceLT, Nat.reduceBEq, reduceIte]) (by simp) (by simp only [go_sem, reduceEqDiff, reduceAdd, reduceSub, reduceMul, reduceLeDiff, reduceLT, Nat.reduceBEq, reduceIte]) ?_
 refine ns ?_
 refine AW.ks [0] [1, 2, 14] ?_
 refine AW.tk h (fun hb9 h => ?_) fun hb9 h => ?_
 ·refine AW.ro ?_
  refine AW.ret ?_
  cases h; refine nz ?_; exact .same _
 refine AW.ks [0] [1, 2] ?_
 refine AW.one ?_
 refine AW.ro ?_
 refine cm h tree_Sort_ok fun r10 hx11 h => ?_
 refine AW.ks [0] [2, 19] ?_
 refine AW.tk h (fun hb12 h => ?_) fun hb12 h => ?_
 ·refine AW.ro ?_
  refine AW.ret ?_
  cases h; refine nz ?_; exact .same _
 refine AW.ks [0] [2] ?_
 refine AW.one ?_
 refine AW.ro ?_
 refine cm h tree_formed_ok fun r13 hx14 h => ?_
 refine AW.ks [] [23] ?_
 refine AW.tk h (fun hb15 h => ?_) fun hb15 h => ?_
 ·refine AW.ro ?_
  refine AW.ret ?_
  cases h; refine nz ?_; exact .same _
 refine AW.kr [] [] ?_
 refine AW.ret ?_
 cases h; refine nz ?_; exact .same _
end Go.Proofs.YtemjeommnpocnaaGreat
