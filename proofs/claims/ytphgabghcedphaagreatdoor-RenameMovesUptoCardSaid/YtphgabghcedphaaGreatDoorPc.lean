/- Part of the proof of a law: contracts of the functions that the law reaches, or plain laws of them, out of the abstract layer (the texts YtphgabghcedphaaGreatDoorIso..). No condition. -/
import Derived.Test.YtphgabghcedphaaGreatDoorW
import Derived.Test.YtphgabghcedphaaGreatDoorIsoF
import Derived.Test.YtphgabghcedphaaGreatDoorLman
import Derived.Test.YtphgabghcedphaaGreatDoorShelf
import Derived.Test.YtphgabghcedphaaGreatDoorIsoV
import Derived.Test.YtphgabghcedphaaGreatDoorPb
open Nat (reduceEqDiff reduceAdd reduceSub reduceMul reduceLeDiff reduceLT)
namespace Go.Proofs.YtphgabghcedphaaGreatDoor
open Go Go.Iso Go.Proofs
set_option linter.unusedSimpArgs false
set_option linter.unusedVariables false
set_option maxRecDepth 100000
/-! ### isochrone/isochroneref02.Add -/
def r02_Add (K : Nat) (p0 : Isochroneref02_RatA) (p1 : Isochroneref02_RatA) : Option Isochroneref02_RatA := (r01_Mul K p0.n p1.d).bind fun r1 =>
 (r01_Mul K p1.n p0.d).bind fun r3 =>
 (r01_Mul K p0.d p1.d).bind fun r5 =>
 if (p0.neg == p1.neg) then
  (r01_Add K r1 r3).bind fun r8 =>
  (r02_Make K p0.neg r8 r5).bind fun r10 =>
  some r10
 else
  (r01_Cmp K r1 r3).bind fun r12 =>
  if (decide ((0 : Int) ≤ r12)) then
   (r01_Sub K r1 r3).bind fun r15 =>
   (r02_Make K p0.neg r15 r5).bind fun r17 =>
   some r17
  else
   (r01_Sub K r3 r1).bind fun r19 =>
   (r02_Make K p1.neg r19 r5).bind fun r21 =>
   some r21
set_option maxHeartbeats 4000000 in
theorem r02_Add_ok {K : Nat} {p0 : Isochroneref02_RatA} {p1 : Isochroneref02_RatA} {r : Isochroneref02_RatA} (h : r02_Add K p0 p1 = some r) : Cn Tryz.prog 101 [aggV p0.enc, aggV p1.enc] (aggV r.enc) := by
 refine Cn.oz Tryz.func101 Tryz.call101 Tryz.ntmps101 Tryz.results101 fun hfit => ?_
 unfold r02_Add at h
 refine AW.kr [] [0, 1] ?_
 refine AW.kr [0, 1, 2] [2, 3, 4] ?_
 refine pm h r01_Mul_ok fun r1 hx2 h => ?_
 refine pm h r01_Mul_ok fun r3 hx4 h => ?_
 refine AW.kr [0, 1, 2] [2, 3, 4, 5, 6] ?_
 refine cm h r01_Mul_ok fun r5 hx6 h => ?_
 refine AW.ks [0, 1, 2] [2, 3, 4, 5, 6, 7] ?_
 refine AW.one ?_
 refine AW.ro ?_
 refine AW.ks [0, 1, 2] [2, 3, 4, 5, 6, 7, 27] ?_
 refine AW.tk h (fun hb7 h => ?_) fun hb7 h => ?_
 ·refine AW.ro ?_
  refine pm h r01_Add_ok fun r8 hx9 h => ?_
  refine pm h r02_Make_ok fun r10 hx11 h => ?_
  refine AW.ret ?_
  cases h; refine nz ?_; exact .same _
 refine AW.ks [0, 1, 2] [2, 3, 4, 5, 6, 7] ?_
 refine AW.one ?_
 refine AW.ro ?_
 refine cm h r01_Cmp_ok fun r12 hx13 h => ?_
 refine AW.ks [0, 1, 2] [2, 3, 4, 5, 6, 7, 38] ?_
 refine AW.tk h (fun hb14 h => ?_) fun hb14 h => ?_
 ·refine AW.ro ?_
  refine pm h r01_Sub_ok fun r15 hx16 h => ?_
  refine pm h r02_Make_ok fun r17 hx18 h => ?_
  refine AW.ret ?_
  cases h; refine nz ?_; exact .same _
 refine AW.kr [1, 2] [3, 4, 5, 6, 7] ?_
 refine pm h r01_Sub_ok fun r19 hx20 h => ?_
 refine pm h r02_Make_ok fun r21 hx22 h => ?_
 refine AW.ret ?_
 cases h; refine nz ?_; exact .same _
/-! ### isochrone/isochroneref11.product -/
def r11_product (K : Nat) (p0 : Isochroneref11_dualA) (p1 : Isochroneref11_dualA) : Option Isochroneref11_dualA := ((
  ((
   if p0.far then
    some true
   else
    some p1.far) : Option Bool).bind (fun v3_0 =>
  if v3_0 then
   (r11_lost K ).bind fun r7 =>
   outM (
    some r7)
  else
   some (.go ()))) : Option (Out Unit _)).bind (Out.fin fun _ =>
 (r02_Mul K p0.v p1.v).bind fun r9 =>
 (r02_Mul K p0.d p1.v).bind fun r11 =>
 (r02_Mul K p0.v p1.d).bind fun r13 =>
 (r02_Add K r11 r13).bind fun r15 =>
 (r11_looked K (Isochroneref11_dualA.mk r9 r15 p0.most false)).bind fun r17 =>
 some r17)
set_option maxHeartbeats 4000000 in
theorem r11_product_ok {K : Nat} {p0 : Isochroneref11_dualA} {p1 : Isochroneref11_dualA} {r : Isochroneref11_dualA} (h : r11_product K p0 p1 = some r) : Cn Tryz.prog 66 [aggV p0.enc, aggV p1.enc] (aggV r.enc) := by
 refine Cn.oz Tryz.func66 Tryz.call66 Tryz.ntmps66 Tryz.results66 fun hfit => ?_
 unfold r11_product at h
 refine AW.kr [] [0, 1] ?_
 refine AW.ks [0, 1, 2] [2, 3, 4] ?_
 refine AW.jo h (fun _ => [(2, .ptr 0 8 0 0), (3, .ptr 1 8 0 0), (4, .ptr 2 8 0 0)]) (fun _ => [vE p0.enc, vE p1.enc, some ⟨8, [[vB false, .d (.val (.slice none 0 0)), .d (.val (.slice none 0 0)), vB false, .d (.val (.slice none 0 0)), .d (.val (.slice none 0 0)), vI (0 : Int), vB false]]⟩]) (fun oJ2 h hJ2 => ?_) fun ⟨⟩ h => ?_
 ·refine AW.jn h (fun v3_0 => [(2, .ptr 0 8 0 0), (3, .ptr 1 8 0 0), (4, .ptr 2 8 0 0), (10, vB v3_0)]) (fun v3_0 => [vE p0.enc, vE p1.enc, some ⟨8, [[vB false, .d (.val (.slice none 0 0)), .d (.val (.slice none 0 0)), vB false, .d (.val (.slice none 0 0)), .d (.val (.slice none 0 0)), vI (0 : Int), vB false]]⟩]) (fun oJ4 h => ?_) fun v3_0 h => ?_
  ·refine AW.rp ?_
   refine sK h (fun hb5 h => ?_) fun hb5 h => ?_
   ·exact ja [0, 1, 2] h
   exact ja [0, 1, 2] h
  refine AW.tk h (fun hb6 h => ?_) fun hb6 h => ?_
  ·refine AW.ro ?_
   refine cm h r11_lost_ok fun r7 hx8 h => ?_
   refine AW.ret ?_
   have h := up h hJ2
   cases h; refine nz ?_; exact .same _
  exact jo [0, 1, 2] h
 refine AW.ro ?_
 refine pm h r02_Mul_ok fun r9 hx10 h => ?_
 refine pm h r02_Mul_ok fun r11 hx12 h => ?_
 refine pm h r02_Mul_ok fun r13 hx14 h => ?_
 refine pm h r02_Add_ok fun r15 hx16 h => ?_
 refine pm h r11_looked_ok fun r17 hx18 h => ?_
 refine AW.ret ?_
 cases h; refine nz ?_; exact .same _
/-! ### isochrone/isochroneref11.sum -/
def r11_sum (K : Nat) (p0 : Isochroneref11_dualA) (p1 : Isochroneref11_dualA) : Option Isochroneref11_dualA := ((
  ((
   if p0.far then
    some true
   else
    some p1.far) : Option Bool).bind (fun v3_0 =>
  if v3_0 then
   (r11_lost K ).bind fun r7 =>
   outM (
    some r7)
  else
   some (.go ()))) : Option (Out Unit _)).bind (Out.fin fun _ =>
 (r02_Add K p0.v p1.v).bind fun r9 =>
 (r02_Add K p0.d p1.d).bind fun r11 =>
 (r11_looked K (Isochroneref11_dualA.mk r9 r11 p0.most false)).bind fun r13 =>
 some r13)
set_option maxHeartbeats 4000000 in
theorem r11_sum_ok {K : Nat} {p0 : Isochroneref11_dualA} {p1 : Isochroneref11_dualA} {r : Isochroneref11_dualA} (h : r11_sum K p0 p1 = some r) : Cn Tryz.prog 68 [aggV p0.enc, aggV p1.enc] (aggV r.enc) := by
 refine Cn.oz Tryz.func68 Tryz.call68 Tryz.ntmps68 Tryz.results68 fun hfit => ?_
 unfold r11_sum at h
 refine AW.kr [] [0, 1] ?_
 refine AW.ks [0, 1, 2] [2, 3, 4] ?_
 refine AW.jo h (fun _ => [(2, .ptr 0 8 0 0), (3, .ptr 1 8 0 0), (4, .ptr 2 8 0 0)]) (fun _ => [vE p0.enc, vE p1.enc, some ⟨8, [[vB false, .d (.val (.slice none 0 0)), .d (.val (.slice none 0 0)), vB false, .d (.val (.slice none 0 0)), .d (.val (.slice none 0 0)), vI (0 : Int), vB false]]⟩]) (fun oJ2 h hJ2 => ?_) fun ⟨⟩ h => ?_
 ·refine AW.jn h (fun v3_0 => [(2, .ptr 0 8 0 0), (3, .ptr 1 8 0 0), (4, .ptr 2 8 0 0), (10, vB v3_0)]) (fun v3_0 => [vE p0.enc, vE p1.enc, some ⟨8, [[vB false, .d (.val (.slice none 0 0)), .d (.val (.slice none 0 0)), vB false, .d (.val (.slice none 0 0)), .d (.val (.slice none 0 0)), vI (0 : Int), vB false]]⟩]) (fun oJ4 h => ?_) fun v3_0 h => ?_
  ·refine AW.rp ?_
   refine sK h (fun hb5 h => ?_) fun hb5 h => ?_
   ·exact ja [0, 1, 2] h
   exact ja [0, 1, 2] h
  refine AW.tk h (fun hb6 h => ?_) fun hb6 h => ?_
  ·refine AW.ro ?_
   refine cm h r11_lost_ok fun r7 hx8 h => ?_
   refine AW.ret ?_
   have h := up h hJ2
   cases h; refine nz ?_; exact .same _
  exact jo [0, 1, 2] h
 refine AW.ro ?_
 refine pm h r02_Add_ok fun r9 hx10 h => ?_
 refine pm h r02_Add_ok fun r11 hx12 h => ?_
 refine pm h r11_looked_ok fun r13 hx14 h => ?_
 refine AW.ret ?_
 cases h; refine nz ?_; exact .same _
/-! ### isochrone/isochroneref11.eval -/
def r11_eval_body (K : Nat) (self30 : (NodeA × (List Api_BindingA) × (List Api_PairA) × Isochroneref11_dualA × Bool) → Option Isochroneref11_dualA) (p0 : NodeA) (p1 : List Api_BindingA) (p2 : List Api_PairA) (p3 : Isochroneref11_dualA) (p4 : Bool) : Option Isochroneref11_dualA := if (p0.op == (1 : Int)) then
  (r02_Of K p0.num).bind fun r2 =>
  (r11_plain K r2 p3.most).bind fun r4 =>
  some r4
 else
  if (p0.op == (2 : Int)) then
   (r11_get K p1 p0.name).bind fun r7 =>
   (r02_Of K r7).bind fun r9 =>
   (r11_plain K r9 p3.most).bind fun r11 =>
   ((
    if p4 then
     (catO p0.name (⟨#[39]⟩ : ByteArray)).bind fun s16 =>
     (r11_get K p1 s16).bind fun r18 =>
     (r02_Of K r18).bind fun r20 =>
     some (Isochroneref11_dualA.mk r11.v r20 r11.most r11.far)
    else
     some r11) : Option Isochroneref11_dualA).bind (fun v13_0 =>
   (r11_looked K v13_0).bind fun r22 =>
   some r22)
  else
   if (p0.op == (3 : Int)) then
    (catO p0.name (⟨#[39]⟩ : ByteArray)).bind fun s25 =>
    (r11_get K p1 s25).bind fun r27 =>
    (r02_Of K r27).bind fun r29 =>
    (r11_plain K r29 p3.most).bind fun r31 =>
    some r31
   else
    if (p0.op == (4 : Int)) then
     (r02_Int K (-1 : Int)).bind fun r34 =>
     (r11_plain K r34 p3.most).bind fun r36 =>
     (idx p0.kids (0 : Int)).bind fun x38 =>
     (self30 (x38, p1, p2, p3, p4)).bind fun r40 =>
     (r11_product K r36 r40).bind fun r42 =>
     some r42
    else
     if (p0.op == (5 : Int)) then
      (idx p0.kids (0 : Int)).bind fun x45 =>
      (self30 (x45, p1, p2, p3, p4)).bind fun r47 =>
      (idx p0.kids (1 : Int)).bind fun x49 =>
      (self30 (x49, p1, p2, p3, p4)).bind fun r51 =>
      (r11_sum K r47 r51).bind fun r53 =>
      some r53
     else
      if (p0.op == (6 : Int)) then
       (idx p0.kids (0 : Int)).bind fun x56 =>
       (self30 (x56, p1, p2, p3, p4)).bind fun r58 =>
       (r02_Int K (-1 : Int)).bind fun r60 =>
       (r11_plain K r60 p3.most).bind fun r62 =>
       (idx p0.kids (1 : Int)).bind fun x64 =>
       (self30 (x64, p1, p2, p3, p4)).bind fun r66 =>
       (r11_product K r62 r66).bind fun r68 =>
       (r11_sum K r58 r68).bind fun r70 =>
       some r70
      else
       if (p0.op == (7 : Int)) then
        (idx p0.kids (0 : Int)).bind fun x73 =>
        (self30 (x73, p1, p2, p3, p4)).bind fun r75 =>
        (idx p0.kids (1 : Int)).bind fun x77 =>
        (self30 (x77, p1, p2, p3, p4)).bind fun r79 =>
        (r11_product K r75 r79).bind fun r81 =>
        some r81
       else
        if (p0.op == (8 : Int)) then
         (r02_One K ).bind fun r84 =>
         (idx p0.kids (1 : Int)).bind fun x86 =>
         (r02_Of K x86.num).bind fun r88 =>
         (r02_Div K r84 r88).bind fun r90 =>
         (r11_plain K r90 p3.most).bind fun r92 =>
         (idx p0.kids (0 : Int)).bind fun x94 =>
         (self30 (x94, p1, p2, p3, p4)).bind fun r96 =>
         (r11_product K r92 r96).bind fun r98 =>
         some r98
        else
         if (p0.op == (9 : Int)) then
          (idx p0.kids (0 : Int)).bind fun x101 =>
          (self30 (x101, p1, p2, p3, p4)).bind fun r103 =>
          (r02_One K ).bind fun r105 =>
          (r11_plain K r105 p3.most).bind fun r107 =>
          (idx p0.kids (1 : Int)).bind fun x109 =>
          (r08_Natural K x109.num (20 : Int)).bind fun r111 =>
          ((iter (S := Int × Isochroneref11_dualA) (R := Isochroneref11_dualA) K (fun again (i113_0, i113_1) =>
           ((
            ((
             if (decide ((0 : Int) < i113_0)) then
              some (!i113_1.far)
             else
              some false) : Option Bool).bind (fun v119_0 =>
            if v119_0 then
             some (.go ())
            else
             outM (
              some i113_1))) : Option (Out Unit _)).bind (Out.fin fun _ =>
           (r11_product K i113_1 r103).bind fun r123 =>
           again (IntKind.wrap .i64 (i113_0 - (1 : Int)), r123))) (r111, (Isochroneref11_dualA.mk r107.v r107.d r107.most r103.far))) : Option Isochroneref11_dualA).bind (fun e114_0 =>
          some e114_0)
         else
          if (p0.op == (12 : Int)) then
           (idx p0.kids (0 : Int)).bind fun x126 =>
           (self30 (x126, p1, p2, p3, true)).bind fun r128 =>
           if r128.far then
            some r128
           else
            (r11_plain K r128.d p3.most).bind fun r131 =>
            some r131
          else
           if (p0.op == (13 : Int)) then
            some p3
           else
            (r11_Meaning K p0 p2).bind fun r134 =>
            if (decide ((0 : Int) < (p0.kids.length : Int))) then
             (idx p0.kids (0 : Int)).bind fun x137 =>
             (self30 (x137, p1, p2, p3, p4)).bind fun r139 =>
             if r139.far then
              some r139
             else
              (self30 (r134.1, p1, p2, r139, p4)).bind fun r142 =>
              some r142
            else
             (self30 (r134.1, p1, p2, p3, p4)).bind fun r144 =>
             some r144
set_option maxHeartbeats 4000000 in
theorem r11_eval_step (K : Nat) (self30 : (NodeA × (List Api_BindingA) × (List Api_PairA) × Isochroneref11_dualA × Bool) → Option Isochroneref11_dualA) (hself30 : ∀ (q : NodeA × (List Api_BindingA) × (List Api_PairA) × Isochroneref11_dualA × Bool) (r : Isochroneref11_dualA), self30 q = some r → Cn Tryz.prog 30 [aggV q.1.enc, .d (slD Api_BindingA.enc q.2.1), .d (slD Api_PairA.enc q.2.2.1), aggV q.2.2.2.1.enc, .d (.val (.bool q.2.2.2.2))] (aggV r.enc)) (p0 : NodeA) (p1 : List Api_BindingA) (p2 : List Api_PairA) (p3 : Isochroneref11_dualA) (p4 : Bool) (r : Isochroneref11_dualA) (h : r11_eval_body K self30 p0 p1 p2 p3 p4 = some r) : Cn Tryz.prog 30 [aggV p0.enc, .d (slD Api_BindingA.enc p1), .d (slD Api_PairA.enc p2), aggV p3.enc, .d (.val (.bool p4))] (aggV r.enc) := by
 refine Cn.oz Tryz.func30 Tryz.call30 Tryz.ntmps30 Tryz.results30 fun hfit => ?_
 unfold r11_eval_body at h
 refine AW.kr [] [0, 1, 2, 3, 4] ?_
 refine AW.ks [0, 1, 2] [1, 2, 4, 5, 8, 10] ?_
 refine AW.one ?_
 refine AW.ro ?_
 refine AW.ks [0, 1, 2] [1, 2, 4, 5, 8, 10, 20] ?_
 refine AW.block ?_
 refine AW.ro ?_
 refine AW.ks [0, 1, 2] [1, 2, 4, 5, 8, 10, 20, 21] ?_
 refine AW.tt h (fun hb1 h => ?_) fun hb1 h => ?_
 ·refine AW.ro ?_
  refine pm h r02_Of_ok fun r2 hx3 h => ?_
  refine pm h r11_plain_ok fun r4 hx5 h => ?_
  refine AW.ret ?_
  cases h; refine nz ?_; exact .same _
 refine AW.ro ?_
 refine AW.ks [0, 1, 2] [1, 2, 4, 5, 8, 10, 20, 29] ?_
 refine AW.tt h (fun hb6 h => ?_) fun hb6 h => ?_
 ·refine AW.ro ?_
  refine pm h r11_get_ok fun r7 hx8 h => ?_
  refine pm h r02_Of_ok fun r9 hx10 h => ?_
  refine pm h r11_plain_ok fun r11 hx12 h => ?_
  refine AW.ks [0, 2, 11] [1, 4, 5, 10, 11] ?_
  refine AW.jn h (fun v13_0 => [(10, .ptr 0 8 0 0), (11, .ptr 1 8 0 0)]) (fun v13_0 => [some ⟨8, [[vB false, .d (.val (.slice none 0 0)), .d (.val (.slice none 0 0)), vB false, .d (.val (.slice none 0 0)), .d (.val (.slice none 0 0)), vI (0 : Int), vB false]]⟩, vE v13_0.enc]) (fun oJ14 h => ?_) fun v13_0 h => ?_
  ·refine AW.ro ?_
   refine AW.ks [0, 1, 2] [1, 5, 10, 11, 39] ?_
   refine AW.tk h (fun hb15 h => ?_) fun hb15 h => ?_
   ·refine AW.rp ?_
    apply bE h; intro s16 hx17 h; have hx17 := bt hx17; refine ns ?_
    refine cm h r11_get_ok fun r18 hx19 h => ?_
    refine cm h r02_Of_ok fun r20 hx21 h => ?_
    exact ja [1, 2] h
   exact ja [1, 2] h
  refine AW.ro ?_
  refine cm h r11_looked_ok fun r22 hx23 h => ?_
  refine AW.ret ?_
  cases h; refine nz ?_; exact .same _
 refine AW.ro ?_
 refine AW.ks [0, 1, 2] [1, 2, 4, 5, 8, 10, 20, 49] ?_
 refine AW.tt h (fun hb24 h => ?_) fun hb24 h => ?_
 ·refine AW.ro ?_
  apply bE h; intro s25 hx26 h; have hx26 := bt hx26; refine ns ?_
  refine pm h r11_get_ok fun r27 hx28 h => ?_
  refine pm h r02_Of_ok fun r29 hx30 h => ?_
  refine pm h r11_plain_ok fun r31 hx32 h => ?_
  refine AW.ret ?_
  cases h; refine nz ?_; exact .same _
 refine AW.ro ?_
 refine AW.ks [0, 1, 2] [1, 2, 4, 5, 8, 10, 20, 60] ?_
 refine AW.tt h (fun hb33 h => ?_) fun hb33 h => ?_
 ·refine AW.ro ?_
  refine pm h r02_Int_ok fun r34 hx35 h => ?_
  refine pm h r11_plain_ok fun r36 hx37 h => ?_
  refine bx h fun x38 h0 h1 h => ?_
  refine pm h (hself30 _ _) fun r40 hx41 h => ?_
  refine pm h r11_product_ok fun r42 hx43 h => ?_
  refine AW.ret ?_
  cases h; refine nz ?_; exact .same _
 refine AW.ro ?_
 refine AW.ks [0, 1, 2] [1, 2, 4, 5, 8, 10, 20, 76] ?_
 refine AW.tt h (fun hb44 h => ?_) fun hb44 h => ?_
 ·refine AW.ro ?_
  refine bx h fun x45 h0 h1 h => ?_
  refine pm h (hself30 _ _) fun r47 hx48 h => ?_
  refine bx h fun x49 h0 h1 h => ?_
  refine pm h (hself30 _ _) fun r51 hx52 h => ?_
  refine pm h r11_sum_ok fun r53 hx54 h => ?_
  refine AW.ret ?_
  cases h; refine nz ?_; exact .same _
 refine AW.ro ?_
 refine AW.ks [0, 1, 2] [1, 2, 4, 5, 8, 10, 20, 97] ?_
 refine AW.tt h (fun hb55 h => ?_) fun hb55 h => ?_
 ·refine AW.ro ?_
  refine bx h fun x56 h0 h1 h => ?_
  refine pm h (hself30 _ _) fun r58 hx59 h => ?_
  refine pm h r02_Int_ok fun r60 hx61 h => ?_
  refine pm h r11_plain_ok fun r62 hx63 h => ?_
  refine bx h fun x64 h0 h1 h => ?_
  refine pm h (hself30 _ _) fun r66 hx67 h => ?_
  refine pm h r11_product_ok fun r68 hx69 h => ?_
  refine pm h r11_sum_ok fun r70 hx71 h => ?_
  refine AW.ret ?_
  cases h; refine nz ?_; exact .same _
 refine AW.ro ?_
 refine AW.ks [0, 1, 2] [1, 2, 4, 5, 8, 10, 20, 123] ?_
 refine AW.tt h (fun hb72 h => ?_) fun hb72 h => ?_
 ·refine AW.ro ?_
  refine bx h fun x73 h0 h1 h => ?_
  refine pm h (hself30 _ _) fun r75 hx76 h => ?_
  refine bx h fun x77 h0 h1 h => ?_
  refine pm h (hself30 _ _) fun r79 hx80 h => ?_
  refine pm h r11_product_ok fun r81 hx82 h => ?_
  refine AW.ret ?_
  cases h; refine nz ?_; exact .same _
 refine AW.ro ?_
 refine AW.ks [0, 1, 2] [1, 2, 4, 5, 8, 10, 20, 144] ?_
 refine AW.tt h (fun hb83 h => ?_) fun hb83 h => ?_
 ·refine AW.ro ?_
  refine pm h r02_One_ok fun r84 hx85 h => ?_
  refine bx h fun x86 h0 h1 h => ?_
  refine pm h r02_Of_ok fun r88 hx89 h => ?_
  refine pm h r02_Div_ok fun r90 hx91 h => ?_
  refine pm h r11_plain_ok fun r92 hx93 h => ?_
  refine bx h fun x94 h0 h1 h => ?_
  refine pm h (hself30 _ _) fun r96 hx97 h => ?_
  refine pm h r11_product_ok fun r98 hx99 h => ?_
  refine AW.ret ?_
  cases h; refine nz ?_; exact .same _
 refine AW.ro ?_
 refine AW.ks [0, 1, 2] [1, 2, 4, 5, 8, 10, 20, 167] ?_
 refine AW.tt h (fun hb100 h => ?_) fun hb100 h => ?_
 ·refine AW.ro ?_
  refine bx h fun x101 h0 h1 h => ?_
  refine pm h (hself30 _ _) fun r103 hx104 h => ?_
  refine AW.kr [0, 1, 2, 12] [5, 8, 10, 12] ?_
  refine pm h r02_One_ok fun r105 hx106 h => ?_
  refine pm h r11_plain_ok fun r107 hx108 h => ?_
  refine AW.kr [0, 2, 3, 8] [5, 10, 12, 13] ?_
  refine AW.ks [0, 1, 2, 3] [5, 10, 12, 13] ?_
  refine AW.one ?_
  refine AW.ro ?_
  refine bx h fun x109 h0 h1 h => ?_
  refine cm h r08_Natural_ok fun r111 hx112 h => ?_
  refine AW.ks [1, 2, 3] [10, 12, 13, 14] ?_
  refine AW.lm h (fun e114_0 => [(10, .ptr 0 8 0 0), (13, .ptr 1 8 0 0)]) (fun e114_0 => [some ⟨8, [[vB false, .d (.val (.slice none 0 0)), .d (.val (.slice none 0 0)), vB false, .d (.val (.slice none 0 0)), .d (.val (.slice none 0 0)), vI (0 : Int), vB false]]⟩, vE e114_0.enc]) (fun (i113_0, i113_1) => [(10, .ptr 0 8 0 0), (12, .ptr 1 8 0 0), (13, .ptr 2 8 0 0), (14, vI i113_0)]) (fun (i113_0, i113_1) => [some ⟨8, [[vB false, .d (.val (.slice none 0 0)), .d (.val (.slice none 0 0)), vB false, .d (.val (.slice none 0 0)), .d (.val (.slice none 0 0)), vI (0 : Int), vB false]]⟩, vE r103.enc, vE i113_1.enc]) [0, 1, 2] (fun oJ116 again ⟨i113_0, i113_1⟩ h => ?_) fun e114_0 h => ?_
  ·try dsimp only at h
   refine AW.jo h (fun _ => [(10, .ptr 0 8 0 0), (12, .ptr 1 8 0 0), (13, .ptr 2 8 0 0), (14, vI i113_0)]) (fun _ => [some ⟨8, [[vB false, .d (.val (.slice none 0 0)), .d (.val (.slice none 0 0)), vB false, .d (.val (.slice none 0 0)), .d (.val (.slice none 0 0)), vI (0 : Int), vB false]]⟩, vE r103.enc, vE i113_1.enc]) (fun oJ118 h hJ118 => ?_) fun ⟨⟩ h => ?_
   ·refine AW.jn h (fun v119_0 => [(10, .ptr 0 8 0 0), (12, .ptr 1 8 0 0), (13, .ptr 2 8 0 0), (14, vI i113_0), (197, vB v119_0)]) (fun v119_0 => [some ⟨8, [[vB false, .d (.val (.slice none 0 0)), .d (.val (.slice none 0 0)), vB false, .d (.val (.slice none 0 0)), .d (.val (.slice none 0 0)), vI (0 : Int), vB false]]⟩, vE r103.enc, vE i113_1.enc]) (fun oJ120 h => ?_) fun v119_0 h => ?_
    ·refine AW.rp ?_
     refine sK h (fun hb121 h => ?_) fun hb121 h => ?_
     ·exact ja [0, 1, 2] h
     exact ja [0, 1, 2] h
    refine AW.tt h (fun hb122 h => ?_) fun hb122 h => ?_
    ·refine AW.sk ?_
     exact jo [0, 1, 2] h
    refine AW.ex ?_
    have h := up h hJ118
    exact ja [0, 2] h
   refine AW.one ?_
   refine AW.block ?_
   refine AW.rp ?_
   refine cm h r11_product_ok fun r123 hx124 h => ?_
   refine AW.ks [0, 1, 2] [10, 12, 13, 14] ?_
   refine AW.rp ?_
   exact na [0, 1, 2] h
  refine AW.kr [0, 1] [10, 13] ?_
  refine AW.ret ?_
  cases h; refine nz ?_; exact .same _
 refine AW.ro ?_
 refine AW.ks [0, 1, 2] [1, 2, 4, 5, 8, 10, 20, 204] ?_
 refine AW.tt h (fun hb125 h => ?_) fun hb125 h => ?_
 ·refine AW.ro ?_
  refine bx h fun x126 h0 h1 h => ?_
  refine pm h (hself30 _ _) fun r128 hx129 h => ?_
  refine AW.ks [1, 2, 11] [8, 10, 15] ?_
  refine AW.one ?_
  refine AW.ro ?_
  refine AW.ks [0, 1, 2] [8, 10, 15, 215] ?_
  refine AW.tk h (fun hb130 h => ?_) fun hb130 h => ?_
  ·refine AW.ro ?_
   refine AW.ret ?_
   cases h; first | (refine nz ?_; exact .same _) | (refine ns ?_; exact .same _)
  refine AW.kr [0, 1, 2] [8, 10, 15] ?_
  refine cm h r11_plain_ok fun r131 hx132 h => ?_
  refine AW.ret ?_
  cases h; refine nz ?_; exact .same _
 refine AW.ro ?_
 refine AW.ks [0, 1, 2] [1, 2, 4, 5, 8, 10, 222] ?_
 refine AW.tk h (fun hb133 h => ?_) fun hb133 h => ?_
 ·refine AW.ro ?_
  refine AW.ret ?_
  cases h; refine nz ?_; exact .same _
 refine AW.kr [0, 1, 2] [1, 2, 4, 5, 8, 10] ?_
 refine cm h r11_Meaning_ok fun r134 hx135 h => ?_
 refine AW.ks [0, 1, 2, 9] [1, 2, 4, 5, 8, 10, 16] ?_
 refine AW.one ?_
 refine AW.ro ?_
 refine AW.ks [0, 1, 2, 3] [1, 2, 4, 5, 8, 10, 16, 234] ?_
 refine AW.tk h (fun hb136 h => ?_) fun hb136 h => ?_
 ·refine AW.ro ?_
  refine bx h fun x137 h0 h1 h => ?_
  refine pm h (hself30 _ _) fun r139 hx140 h => ?_
  refine AW.ks [2, 3, 13] [1, 2, 4, 10, 16, 18] ?_
  refine AW.one ?_
  refine AW.ro ?_
  refine AW.ks [0, 1, 2] [1, 2, 4, 10, 16, 18, 245] ?_
  refine AW.tk h (fun hb141 h => ?_) fun hb141 h => ?_
  ·refine AW.ro ?_
   refine AW.ret ?_
   cases h; first | (refine nz ?_; exact .same _) | (refine ns ?_; exact .same _)
  refine AW.kr [0, 1, 2] [1, 2, 4, 10, 16, 18] ?_
  refine cm h (hself30 _ _) fun r142 hx143 h => ?_
  refine AW.ret ?_
  cases h; refine nz ?_; exact .same _
 refine AW.kr [1, 2, 3] [1, 2, 4, 8, 10, 16] ?_
 refine cm h (hself30 _ _) fun r144 hx145 h => ?_
 refine AW.ret ?_
 cases h; refine nz ?_; exact .same _
def r11_eval (K : Nat) (p0 : NodeA) (p1 : List Api_BindingA) (p2 : List Api_PairA) (p3 : Isochroneref11_dualA) (p4 : Bool) : Option Isochroneref11_dualA := iter K (fun self q => r11_eval_body K self q.1 q.2.1 q.2.2.1 q.2.2.2.1 q.2.2.2.2) (p0, p1, p2, p3, p4)
theorem key_r11_eval {K : Nat} (k : Nat) : (∀ (q : NodeA × (List Api_BindingA) × (List Api_PairA) × Isochroneref11_dualA × Bool) (r : Isochroneref11_dualA), iter k (fun self q => r11_eval_body K self q.1 q.2.1 q.2.2.1 q.2.2.2.1 q.2.2.2.2) q = some r → Cn Tryz.prog 30 [aggV q.1.enc, .d (slD Api_BindingA.enc q.2.1), .d (slD Api_PairA.enc q.2.2.1), aggV q.2.2.2.1.enc, .d (.val (.bool q.2.2.2.2))] (aggV r.enc)) := by
 induction k with
 | zero => exact fun q r h => by cases h
 | succ k ih => exact fun q r h => r11_eval_step K _ ih q.1 q.2.1 q.2.2.1 q.2.2.2.1 q.2.2.2.2 r h
theorem r11_eval_ok {K : Nat} {p0 : NodeA} {p1 : List Api_BindingA} {p2 : List Api_PairA} {p3 : Isochroneref11_dualA} {p4 : Bool} {r : Isochroneref11_dualA} (h : r11_eval K p0 p1 p2 p3 p4 = some r) : Cn Tryz.prog 30 [aggV p0.enc, .d (slD Api_BindingA.enc p1), .d (slD Api_PairA.enc p2), aggV p3.enc, .d (.val (.bool p4))] (aggV r.enc) := (key_r11_eval K) (p0, p1, p2, p3, p4) r h
/-! ### isochrone/isochroneref02.Sign -/
def r02_Sign (K : Nat) (p0 : Isochroneref02_RatA) : Option Int := if ((p0.n.length : Int) == (0 : Int)) then
  some (0 : Int)
 else
  if p0.neg then
   some (-1 : Int)
  else
   some (1 : Int)
set_option maxHeartbeats 4000000 in
theorem r02_Sign_ok {K : Nat} {p0 : Isochroneref02_RatA} {r : Int} (h : r02_Sign K p0 = some r) : Cn Tryz.prog 103 [aggV p0.enc] (.d (.val (.int .i64 r))) := by
 refine Cn.oz Tryz.func103 Tryz.call103 Tryz.ntmps103 Tryz.results103 fun hfit => ?_
 unfold r02_Sign at h
 refine AW.kr [] [0] ?_
 refine AW.ks [0] [1] ?_
 refine AW.one ?_
 refine AW.ro ?_
 refine AW.ks [0] [1, 6] ?_
 refine AW.tk h (fun hb1 h => ?_) fun hb1 h => ?_
 ·refine AW.ro ?_
  refine AW.ret ?_
  cases h; refine nz ?_; exact .same _
 refine AW.ks [0] [1] ?_
 refine AW.one ?_
 refine AW.ro ?_
 refine AW.ks [] [8] ?_
 refine AW.tk h (fun hb2 h => ?_) fun hb2 h => ?_
 ·refine AW.ro ?_
  refine AW.ret ?_
  cases h; refine nz ?_; exact .same _
 refine AW.kr [] [] ?_
 refine AW.ret ?_
 cases h; refine nz ?_; exact .same _
/-! ### isochrone/isochroneref02.Neg -/
def r02_Neg (K : Nat) (p0 : Isochroneref02_RatA) : Option Isochroneref02_RatA := if ((p0.n.length : Int) == (0 : Int)) then
  some p0
 else
  some (Isochroneref02_RatA.mk (!p0.neg) p0.n p0.d)
set_option maxHeartbeats 4000000 in
theorem r02_Neg_ok {K : Nat} {p0 : Isochroneref02_RatA} {r : Isochroneref02_RatA} (h : r02_Neg K p0 = some r) : Cn Tryz.prog 125 [aggV p0.enc] (aggV r.enc) := by
 refine Cn.oz Tryz.func125 Tryz.call125 Tryz.ntmps125 Tryz.results125 fun hfit => ?_
 unfold r02_Neg at h
 refine AW.kr [] [0] ?_
 refine AW.ks [0, 1] [1, 2] ?_
 refine AW.one ?_
 refine AW.ro ?_
 refine AW.ks [0, 1] [1, 2, 6] ?_
 refine AW.tk h (fun hb1 h => ?_) fun hb1 h => ?_
 ·refine AW.ro ?_
  refine AW.ret ?_
  cases h; refine nz ?_; exact .same _
 refine AW.kr [0, 1] [1, 2] ?_
 refine AW.ret ?_
 cases h; refine nz ?_; exact .same _
/-! ### isochrone/isochroneref02.Sub -/
def r02_Sub (K : Nat) (p0 : Isochroneref02_RatA) (p1 : Isochroneref02_RatA) : Option Isochroneref02_RatA := (r02_Neg K p1).bind fun r1 =>
 (r02_Add K p0 r1).bind fun r3 =>
 some r3
set_option maxHeartbeats 4000000 in
theorem r02_Sub_ok {K : Nat} {p0 : Isochroneref02_RatA} {p1 : Isochroneref02_RatA} {r : Isochroneref02_RatA} (h : r02_Sub K p0 p1 = some r) : Cn Tryz.prog 104 [aggV p0.enc, aggV p1.enc] (aggV r.enc) := by
 refine Cn.oz Tryz.func104 Tryz.call104 Tryz.ntmps104 Tryz.results104 fun hfit => ?_
 unfold r02_Sub at h
 refine AW.kr [] [0, 1] ?_
 refine AW.kr [0, 1, 2] [2, 3, 4] ?_
 refine pm h r02_Neg_ok fun r1 hx2 h => ?_
 refine pm h r02_Add_ok fun r3 hx4 h => ?_
 refine AW.ret ?_
 cases h; refine nz ?_; exact .same _
/-! ### isochrone/isochroneref02.Cmp -/
def r02_Cmp (K : Nat) (p0 : Isochroneref02_RatA) (p1 : Isochroneref02_RatA) : Option Int := (r02_Sub K p0 p1).bind fun r1 =>
 (r02_Sign K r1).bind fun r3 =>
 some r3
set_option maxHeartbeats 4000000 in
theorem r02_Cmp_ok {K : Nat} {p0 : Isochroneref02_RatA} {p1 : Isochroneref02_RatA} {r : Int} (h : r02_Cmp K p0 p1 = some r) : Cn Tryz.prog 71 [aggV p0.enc, aggV p1.enc] (.d (.val (.int .i64 r))) := by
 refine Cn.oz Tryz.func71 Tryz.call71 Tryz.ntmps71 Tryz.results71 fun hfit => ?_
 unfold r02_Cmp at h
 refine AW.kr [] [0, 1] ?_
 refine AW.kr [0, 1] [2, 3] ?_
 refine cm h r02_Sub_ok fun r1 hx2 h => ?_
 refine cm h r02_Sign_ok fun r3 hx4 h => ?_
 refine AW.ret ?_
 cases h; refine nz ?_; exact .same _
/-! ### isochrone/isochroneref11.truth -/
def r11_truth_body (K : Nat) (self33 : (NodeA × (List Api_BindingA) × (List Api_PairA) × Isochroneref11_dualA) → Option (Bool × Bool)) (p0 : NodeA) (p1 : List Api_BindingA) (p2 : List Api_PairA) (p3 : Isochroneref11_dualA) : Option (Bool × Bool) := ((
  if (p0.op == (20 : Int)) then
   outM (
    some (true, false))
  else
   if (p0.op == (21 : Int)) then
    outM (
     some (false, false))
   else
    if (p0.op == (28 : Int)) then
     (idx p0.kids (0 : Int)).bind fun x6 =>
     (self33 (x6, p1, p2, p3)).bind fun r8 =>
     outM (
      some ((!r8.1), r8.2))
    else
     ((
      if (p0.op == (29 : Int)) then
       some (p0.op == (29 : Int))
      else
       if (p0.op == (30 : Int)) then
        some (p0.op == (30 : Int))
       else
        if (p0.op == (31 : Int)) then
         some (p0.op == (31 : Int))
        else
         some (p0.op == (32 : Int))) : Option Bool).bind (fun v10_0 =>
     if v10_0 then
      (idx p0.kids (0 : Int)).bind fun x16 =>
      (self33 (x16, p1, p2, p3)).bind fun r18 =>
      (idx p0.kids (1 : Int)).bind fun x20 =>
      (self33 (x20, p1, p2, p3)).bind fun r22 =>
      ((
       if (p0.op == (29 : Int)) then
        if r18.1 then
         some r22.1
        else
         some false
       else
        if (p0.op == (30 : Int)) then
         if r18.1 then
          some true
         else
          some r22.1
        else
         if (p0.op == (31 : Int)) then
          if (!r18.1) then
           some true
          else
           some r22.1
         else
          some (r18.1 == r22.1)) : Option Bool).bind (fun v24_0 =>
      if r18.2 then
       outM (
        some (v24_0, true))
      else
       outM (
        some (v24_0, r22.2)))
     else
      ((
       if (p0.op == (37 : Int)) then
        some (p0.op == (37 : Int))
       else
        some (p0.op == (38 : Int))) : Option Bool).bind (fun v33_0 =>
      if v33_0 then
       (r11_Meaning K p0 p2).bind fun r37 =>
       if (decide ((0 : Int) < (p0.kids.length : Int))) then
        (idx p0.kids (0 : Int)).bind fun x40 =>
        (r11_eval K x40 p1 p2 p3 false).bind fun r42 =>
        if r42.far then
         outM (
          some (false, true))
        else
         (self33 (r37.1, p1, p2, r42)).bind fun r45 =>
         outM (
          some (r45.1, r45.2))
       else
        (self33 (r37.1, p1, p2, p3)).bind fun r47 =>
        outM (
         some (r47.1, r47.2))
      else
       some (.go ())))) : Option (Out Unit _)).bind (Out.fin fun _ =>
 (idx p0.kids (0 : Int)).bind fun x49 =>
 (r11_eval K x49 p1 p2 p3 false).bind fun r51 =>
 (idx p0.kids (1 : Int)).bind fun x53 =>
 (r11_eval K x53 p1 p2 p3 false).bind fun r55 =>
 ((
  ((
   if r51.far then
    some true
   else
    some r55.far) : Option Bool).bind (fun v59_0 =>
  if v59_0 then
   outM (
    some (false, true))
  else
   some (.go ()))) : Option (Out Unit _)).bind (Out.fin fun _ =>
 (r02_Cmp K r51.v r55.v).bind fun r63 =>
 if (p0.op == (22 : Int)) then
  some ((r63 == (0 : Int)), false)
 else
  if (p0.op == (23 : Int)) then
   some ((r63 != (0 : Int)), false)
  else
   if (p0.op == (24 : Int)) then
    some ((decide (r63 < (0 : Int))), false)
   else
    if (p0.op == (25 : Int)) then
     some ((decide (r63 ≤ (0 : Int))), false)
    else
     if (p0.op == (26 : Int)) then
      some ((decide ((0 : Int) < r63)), false)
     else
      some ((decide ((0 : Int) ≤ r63)), false)))
set_option maxHeartbeats 4000000 in
theorem r11_truth_step (K : Nat) (self33 : (NodeA × (List Api_BindingA) × (List Api_PairA) × Isochroneref11_dualA) → Option (Bool × Bool)) (hself33 : ∀ (q : NodeA × (List Api_BindingA) × (List Api_PairA) × Isochroneref11_dualA) (r : Bool × Bool), self33 q = some r → Cn Tryz.prog 33 [aggV q.1.enc, .d (slD Api_BindingA.enc q.2.1), .d (slD Api_PairA.enc q.2.2.1), aggV q.2.2.2.enc] (.tup [.d (.val (.bool r.1)), .d (.val (.bool r.2))])) (p0 : NodeA) (p1 : List Api_BindingA) (p2 : List Api_PairA) (p3 : Isochroneref11_dualA) (r : Bool × Bool) (h : r11_truth_body K self33 p0 p1 p2 p3 = some r) : Cn Tryz.prog 33 [aggV p0.enc, .d (slD Api_BindingA.enc p1), .d (slD Api_PairA.enc p2), aggV p3.enc] (.tup [.d (.val (.bool r.1)), .d (.val (.bool r.2))]) := by
 refine Cn.oz Tryz.func33 Tryz.call33 Tryz.ntmps33 Tryz.results33 fun hfit => ?_
 unfold r11_truth_body at h
 refine AW.kr [] [0, 1, 2, 3] ?_
 refine AW.ks [0, 1] [1, 2, 4, 7] ?_
 refine AW.jo h (fun _ => [(1, vL Api_BindingA.enc p1), (2, vL Api_PairA.enc p2), (4, .ptr 0 6 0 0), (7, .ptr 1 8 0 0)]) (fun _ => [vE p0.enc, vE p3.enc]) (fun oJ2 h hJ2 => ?_) fun ⟨⟩ h => ?_
 ·refine AW.ro ?_
  refine AW.ks [0, 1] [1, 2, 4, 7, 21] ?_
  refine AW.block ?_
  refine AW.ro ?_
  refine AW.ks [0, 1] [1, 2, 4, 7, 21, 22] ?_
  refine AW.tt h (fun hb3 h => ?_) fun hb3 h => ?_
  ·refine AW.ro ?_
   refine AW.ret ?_
   have h := up h hJ2
   cases h; refine nz ?_; exact .same _
  refine AW.ro ?_
  refine AW.ks [0, 1] [1, 2, 4, 7, 21, 24] ?_
  refine AW.tt h (fun hb4 h => ?_) fun hb4 h => ?_
  ·refine AW.ro ?_
   refine AW.ret ?_
   have h := up h hJ2
   cases h; refine nz ?_; exact .same _
  refine AW.ro ?_
  refine AW.ks [0, 1] [1, 2, 4, 7, 21, 26] ?_
  refine AW.tt h (fun hb5 h => ?_) fun hb5 h => ?_
  ·refine AW.ro ?_
   refine bx h fun x6 h0 h1 h => ?_
   refine pm h (hself33 _ _) fun r8 hx9 h => ?_
   refine AW.kr [] [8, 9] ?_
   refine AW.ret ?_
   have h := up h hJ2
   cases h; refine nz ?_; exact .same _
  refine AW.jn h (fun v10_0 => [(1, vL Api_BindingA.enc p1), (2, vL Api_PairA.enc p2), (4, .ptr 0 6 0 0), (7, .ptr 1 8 0 0), (21, vI p0.op), (42, vB v10_0)]) (fun v10_0 => [vE p0.enc, vE p3.enc]) (fun oJ11 h => ?_) fun v10_0 h => ?_
  ·refine AW.ro ?_
   refine AW.ks [0, 1] [1, 2, 4, 7, 21, 42] ?_
   refine AW.tt h (fun hb12 h => ?_) fun hb12 h => ?_
   ·refine AW.sk ?_
    exact ja [0, 1] h
   refine AW.ro ?_
   refine AW.ks [0, 1] [1, 2, 4, 7, 21, 42] ?_
   refine AW.tt h (fun hb13 h => ?_) fun hb13 h => ?_
   ·refine AW.sk ?_
    exact ja [0, 1] h
   refine AW.ro ?_
   refine AW.ks [0, 1] [1, 2, 4, 7, 21, 42] ?_
   refine AW.tt h (fun hb14 h => ?_) fun hb14 h => ?_
   ·refine AW.sk ?_
    exact ja [0, 1] h
   refine AW.rp ?_
   exact ja [0, 1] h
  refine AW.tt h (fun hb15 h => ?_) fun hb15 h => ?_
  ·refine AW.ro ?_
   refine bx h fun x16 h0 h1 h => ?_
   refine pm h (hself33 _ _) fun r18 hx19 h => ?_
   refine AW.kr [0, 1] [1, 2, 4, 7, 10, 11] ?_
   refine bx h fun x20 h0 h1 h => ?_
   refine pm h (hself33 _ _) fun r22 hx23 h => ?_
   refine AW.ks [0] [4, 10, 11, 12, 13] ?_
   refine AW.jn h (fun v24_0 => [(8, vB v24_0), (11, vB r18.2), (13, vB r22.2)]) (fun v24_0 => []) (fun oJ25 h => ?_) fun v24_0 h => ?_
   ·refine AW.ro ?_
    refine AW.ks [] [10, 11, 12, 13, 70] ?_
    refine AW.block ?_
    refine AW.ro ?_
    refine AW.ks [] [10, 11, 12, 13, 70, 74] ?_
    refine AW.tt h (fun hb26 h => ?_) fun hb26 h => ?_
    ·refine AW.rp ?_
     refine sK h (fun hb27 h => ?_) fun hb27 h => ?_
     ·exact ja [] h
     exact ja [] h
    refine AW.ro ?_
    refine AW.ks [] [10, 11, 12, 13, 70, 80] ?_
    refine AW.tt h (fun hb28 h => ?_) fun hb28 h => ?_
    ·refine AW.rp ?_
     refine sK h (fun hb29 h => ?_) fun hb29 h => ?_
     ·exact ja [] h
     exact ja [] h
    refine AW.ro ?_
    refine AW.ks [] [10, 11, 12, 13, 86] ?_
    refine AW.tt h (fun hb30 h => ?_) fun hb30 h => ?_
    ·refine AW.rp ?_
     refine sK h (fun hb31 h => ?_) fun hb31 h => ?_
     ·exact ja [] h
     exact ja [] h
    refine AW.rp ?_
    exact ja [] h
   refine AW.ro ?_
   refine sK h (fun hb32 h => ?_) fun hb32 h => ?_
   ·refine AW.ret ?_
    have h := up h hJ2
    cases h; refine nz ?_; exact .same _
   refine AW.ret ?_
   have h := up h hJ2
   cases h; refine nz ?_; exact .same _
  refine AW.jn h (fun v33_0 => [(1, vL Api_BindingA.enc p1), (2, vL Api_PairA.enc p2), (4, .ptr 0 6 0 0), (7, .ptr 1 8 0 0), (98, vB v33_0)]) (fun v33_0 => [vE p0.enc, vE p3.enc]) (fun oJ34 h => ?_) fun v33_0 h => ?_
  ·refine AW.ro ?_
   refine AW.ks [0, 1] [1, 2, 4, 7, 21, 98] ?_
   refine AW.tt h (fun hb35 h => ?_) fun hb35 h => ?_
   ·refine AW.sk ?_
    exact ja [0, 1] h
   refine AW.rp ?_
   exact ja [0, 1] h
  refine AW.tk h (fun hb36 h => ?_) fun hb36 h => ?_
  ·refine AW.ro ?_
   refine cm h r11_Meaning_ok fun r37 hx38 h => ?_
   refine AW.ks [0, 1, 8] [1, 2, 4, 7, 14] ?_
   refine AW.one ?_
   refine AW.ro ?_
   refine AW.ks [0, 1, 2] [1, 2, 4, 7, 14, 110] ?_
   refine AW.tk h (fun hb39 h => ?_) fun hb39 h => ?_
   ·refine AW.ro ?_
    refine bx h fun x40 h0 h1 h => ?_
    refine pm h r11_eval_ok fun r42 hx43 h => ?_
    refine AW.ks [2, 11] [1, 2, 14, 16] ?_
    refine AW.one ?_
    refine AW.ro ?_
    refine AW.ks [0, 1] [1, 2, 14, 16, 120] ?_
    refine AW.tk h (fun hb44 h => ?_) fun hb44 h => ?_
    ·refine AW.ro ?_
     refine AW.ret ?_
     have h := up h hJ2
     cases h; refine nz ?_; exact .same _
    refine AW.kr [0, 1] [1, 2, 14, 16] ?_
    refine cm h (hself33 _ _) fun r45 hx46 h => ?_
    refine AW.ret ?_
    have h := up h hJ2
    cases h; refine nz ?_; exact .same _
   refine AW.kr [1, 2] [1, 2, 7, 14] ?_
   refine cm h (hself33 _ _) fun r47 hx48 h => ?_
   refine AW.ret ?_
   have h := up h hJ2
   cases h; refine nz ?_; exact .same _
  exact jo [0, 1] h
 refine AW.ro ?_
 refine bx h fun x49 h0 h1 h => ?_
 refine pm h r11_eval_ok fun r51 hx52 h => ?_
 refine AW.kr [0, 1, 10] [1, 2, 4, 7, 17] ?_
 refine bx h fun x53 h0 h1 h => ?_
 refine pm h r11_eval_ok fun r55 hx56 h => ?_
 refine AW.ks [0, 2, 11] [4, 17, 18] ?_
 refine AW.jo h (fun _ => [(4, .ptr 0 6 0 0), (17, .ptr 1 8 0 0), (18, .ptr 2 8 0 0)]) (fun _ => [vE p0.enc, vE r51.enc, vE r55.enc]) (fun oJ58 h hJ58 => ?_) fun ⟨⟩ h => ?_
 ·refine AW.jn h (fun v59_0 => [(4, .ptr 0 6 0 0), (17, .ptr 1 8 0 0), (18, .ptr 2 8 0 0), (156, vB v59_0)]) (fun v59_0 => [vE p0.enc, vE r51.enc, vE r55.enc]) (fun oJ60 h => ?_) fun v59_0 h => ?_
  ·refine AW.rp ?_
   refine sK h (fun hb61 h => ?_) fun hb61 h => ?_
   ·exact ja [0, 1, 2] h
   exact ja [0, 1, 2] h
  refine AW.tk h (fun hb62 h => ?_) fun hb62 h => ?_
  ·refine AW.ro ?_
   refine AW.ret ?_
   have h := up h hJ58
   cases h; refine nz ?_; exact .same _
  exact jo [0, 1, 2] h
 refine AW.ro ?_
 refine cm h r02_Cmp_ok fun r63 hx64 h => ?_
 refine AW.ks [0] [4, 19] ?_
 refine AW.one ?_
 refine AW.ro ?_
 refine AW.ks [] [19, 163] ?_
 refine AW.block ?_
 refine AW.ro ?_
 refine AW.ks [] [19, 163, 166] ?_
 refine AW.tt h (fun hb65 h => ?_) fun hb65 h => ?_
 ·refine AW.rp ?_
  refine AW.kr [] [8] ?_
  refine AW.ret ?_
  cases h; refine nz ?_; exact .same _
 refine AW.ro ?_
 refine AW.ks [] [19, 163, 170] ?_
 refine AW.tt h (fun hb66 h => ?_) fun hb66 h => ?_
 ·refine AW.rp ?_
  refine AW.kr [] [8] ?_
  refine AW.ret ?_
  cases h; refine nz ?_; exact .same _
 refine AW.ro ?_
 refine AW.ks [] [19, 163, 174] ?_
 refine AW.tt h (fun hb67 h => ?_) fun hb67 h => ?_
 ·refine AW.rp ?_
  refine AW.kr [] [8] ?_
  refine AW.ret ?_
  cases h; refine nz ?_; exact .same _
 refine AW.ro ?_
 refine AW.ks [] [19, 163, 178] ?_
 refine AW.tt h (fun hb68 h => ?_) fun hb68 h => ?_
 ·refine AW.rp ?_
  refine AW.kr [] [8] ?_
  refine AW.ret ?_
  cases h; refine nz ?_; exact .same _
 refine AW.ro ?_
 refine AW.ks [] [19, 182] ?_
 refine AW.tt h (fun hb69 h => ?_) fun hb69 h => ?_
 ·refine AW.rp ?_
  refine AW.kr [] [8] ?_
  refine AW.ret ?_
  cases h; refine nz ?_; exact .same _
 refine AW.rp ?_
 refine AW.kr [] [8] ?_
 refine AW.ret ?_
 cases h; refine nz ?_; exact .same _
def r11_truth (K : Nat) (p0 : NodeA) (p1 : List Api_BindingA) (p2 : List Api_PairA) (p3 : Isochroneref11_dualA) : Option (Bool × Bool) := iter K (fun self q => r11_truth_body K self q.1 q.2.1 q.2.2.1 q.2.2.2) (p0, p1, p2, p3)
theorem key_r11_truth {K : Nat} (k : Nat) : (∀ (q : NodeA × (List Api_BindingA) × (List Api_PairA) × Isochroneref11_dualA) (r : Bool × Bool), iter k (fun self q => r11_truth_body K self q.1 q.2.1 q.2.2.1 q.2.2.2) q = some r → Cn Tryz.prog 33 [aggV q.1.enc, .d (slD Api_BindingA.enc q.2.1), .d (slD Api_PairA.enc q.2.2.1), aggV q.2.2.2.enc] (.tup [.d (.val (.bool r.1)), .d (.val (.bool r.2))])) := by
 induction k with
 | zero => exact fun q r h => by cases h
 | succ k ih => exact fun q r h => r11_truth_step K _ ih q.1 q.2.1 q.2.2.1 q.2.2.2 r h
theorem r11_truth_ok {K : Nat} {p0 : NodeA} {p1 : List Api_BindingA} {p2 : List Api_PairA} {p3 : Isochroneref11_dualA} {r : Bool × Bool} (h : r11_truth K p0 p1 p2 p3 = some r) : Cn Tryz.prog 33 [aggV p0.enc, .d (slD Api_BindingA.enc p1), .d (slD Api_PairA.enc p2), aggV p3.enc] (.tup [.d (.val (.bool r.1)), .d (.val (.bool r.2))]) := (key_r11_truth K) (p0, p1, p2, p3) r h
/-! ### isochrone/isochroneref11.Long -/
def r11_Long (K : Nat) (p0 : NodeA) (p1 : List Api_BindingA) (p2 : List Api_PairA) : Option Bool := (r08_Sort K p0.op).bind fun r1 =>
 ((
  ((
   if (r1 != (1 : Int)) then
    if (r1 != (2 : Int)) then
     some true
    else
     (r08_Check K p0 r1).bind fun r9 =>
     if (r9 != (0 : Int)) then
      some true
     else
      (r11_Valid K p1).bind fun r12 =>
      if (!r12) then
       some true
      else
       (r11_Check K p2).bind fun r15 =>
       if (r15 != (0 : Int)) then
        some true
       else
        (r11_Unknown K p0 p2).bind fun r18 =>
        if r18 then
         some true
        else
         (r11_Modal K p0).bind fun r21 =>
         some r21
   else
    (r08_Check K p0 r1).bind fun r23 =>
    if (r23 != (0 : Int)) then
     some true
    else
     (r11_Valid K p1).bind fun r26 =>
     if (!r26) then
      some true
     else
      (r11_Check K p2).bind fun r29 =>
      if (r29 != (0 : Int)) then
       some true
      else
       (r11_Unknown K p0 p2).bind fun r32 =>
       if r32 then
        some true
       else
        (r11_Modal K p0).bind fun r35 =>
        some r35) : Option Bool).bind (fun v5_0 =>
  if v5_0 then
   outM (
    some false)
  else
   some (.go ()))) : Option (Out Unit _)).bind (Out.fin fun _ =>
 if (r1 == (1 : Int)) then
  (r02_Zero K ).bind fun r39 =>
  (r11_plain K r39 (200 : Int)).bind fun r41 =>
  (r11_eval K p0 p1 p2 r41 false).bind fun r43 =>
  some r43.far
 else
  (r02_Zero K ).bind fun r45 =>
  (r11_plain K r45 (200 : Int)).bind fun r47 =>
  (r11_truth K p0 p1 p2 r47).bind fun r49 =>
  if (r1 == (2 : Int)) then
   some r49.2
  else
   some false)
set_option maxHeartbeats 4000000 in
theorem r11_Long_ok {K : Nat} {p0 : NodeA} {p1 : List Api_BindingA} {p2 : List Api_PairA} {r : Bool} (h : r11_Long K p0 p1 p2 = some r) : Cn Tryz.prog 10 [aggV p0.enc, .d (slD Api_BindingA.enc p1), .d (slD Api_PairA.enc p2)] (.d (.val (.bool r))) := by
 refine Cn.oz Tryz.func10 Tryz.call10 Tryz.ntmps10 Tryz.results10 fun hfit => ?_
 unfold r11_Long at h
 refine AW.kr [] [0, 1, 2] ?_
 refine AW.kr [0] [1, 2, 3] ?_
 refine cm h r08_Sort_ok fun r1 hx2 h => ?_
 refine AW.ks [0] [1, 2, 3, 7] ?_
 refine AW.jo h (fun _ => [(1, vL Api_BindingA.enc p1), (2, vL Api_PairA.enc p2), (3, .ptr 0 6 0 0), (7, vI r1)]) (fun _ => [vE p0.enc]) (fun oJ4 h hJ4 => ?_) fun ⟨⟩ h => ?_
 ·refine AW.jn h (fun v5_0 => [(1, vL Api_BindingA.enc p1), (2, vL Api_PairA.enc p2), (3, .ptr 0 6 0 0), (7, vI r1), (43, vB v5_0)]) (fun v5_0 => [vE p0.enc]) (fun oJ6 h => ?_) fun v5_0 h => ?_
  ·refine AW.rp ?_
   refine sK h (fun hb7 h => ?_) fun hb7 h => ?_
   ·refine sK h (fun hb8 h => ?_) fun hb8 h => ?_
    ·exact ja [0] h
    refine cm h r08_Check_ok fun r9 hx10 h => ?_
    refine sK h (fun hb11 h => ?_) fun hb11 h => ?_
    ·exact ja [0] h
    refine cm h r11_Valid_ok fun r12 hx13 h => ?_
    refine sK h (fun hb14 h => ?_) fun hb14 h => ?_
    ·exact ja [0] h
    refine cm h r11_Check_ok fun r15 hx16 h => ?_
    refine sK h (fun hb17 h => ?_) fun hb17 h => ?_
    ·exact ja [0] h
    refine cm h r11_Unknown_ok fun r18 hx19 h => ?_
    refine sK h (fun hb20 h => ?_) fun hb20 h => ?_
    ·exact ja [0] h
    refine cm h r11_Modal_ok fun r21 hx22 h => ?_
    exact ja [0] h
   refine cm h r08_Check_ok fun r23 hx24 h => ?_
   refine sK h (fun hb25 h => ?_) fun hb25 h => ?_
   ·exact ja [0] h
   refine cm h r11_Valid_ok fun r26 hx27 h => ?_
   refine sK h (fun hb28 h => ?_) fun hb28 h => ?_
   ·exact ja [0] h
   refine cm h r11_Check_ok fun r29 hx30 h => ?_
   refine sK h (fun hb31 h => ?_) fun hb31 h => ?_
   ·exact ja [0] h
   refine cm h r11_Unknown_ok fun r32 hx33 h => ?_
   refine sK h (fun hb34 h => ?_) fun hb34 h => ?_
   ·exact ja [0] h
   refine cm h r11_Modal_ok fun r35 hx36 h => ?_
   exact ja [0] h
  refine AW.tk h (fun hb37 h => ?_) fun hb37 h => ?_
  ·refine AW.ro ?_
   refine AW.ret ?_
   have h := up h hJ4
   cases h; refine nz ?_; exact .same _
  exact jo [0] h
 refine AW.one ?_
 refine AW.ro ?_
 refine AW.ks [0] [1, 2, 3, 7, 45] ?_
 refine AW.tk h (fun hb38 h => ?_) fun hb38 h => ?_
 ·refine AW.ro ?_
  refine pm h r02_Zero_ok fun r39 hx40 h => ?_
  refine pm h r11_plain_ok fun r41 hx42 h => ?_
  refine pm h r11_eval_ok fun r43 hx44 h => ?_
  refine AW.ret ?_
  cases h; refine nz ?_; exact .same _
 refine AW.kr [0] [1, 2, 3, 7] ?_
 refine pm h r02_Zero_ok fun r45 hx46 h => ?_
 refine pm h r11_plain_ok fun r47 hx48 h => ?_
 refine pm h r11_truth_ok fun r49 hx50 h => ?_
 refine AW.kr [] [7, 9] ?_
 refine sK h (fun hb51 h => ?_) fun hb51 h => ?_
 ·refine AW.ret ?_
  cases h; refine nz ?_; exact .same _
 refine AW.ret ?_
 cases h; refine nz ?_; exact .same _
/-! ### isochrone/isochroneref11.set -/
def r11_set (K : Nat) (p0 : List Api_BindingA) (p1 : ByteArray) (p2 : RatA) : Option (List Api_BindingA) := ((iter (S := Bool × Int × (List Api_BindingA)) (R := (Bool × (List Api_BindingA))) K (fun again (i1_0, i1_1, i1_2) =>
  if (decide (i1_1 < (p0.length : Int))) then
   ((
    ((
     ((
      if (!i1_0) then
       (idx p0 i1_1).bind fun x13 =>
       some (!(Op.bytesLess x13.name.toList p1.toList || x13.name.toList == p1.toList))
      else
       some false) : Option Bool).bind (fun v10_0 =>
     if v10_0 then
      (appO 72 i1_2 [(Api_BindingA.mk p1 p2)]).bind fun l16 =>
      some (true, l16)
     else
      some (i1_0, i1_2))) : Option (Bool × (List Api_BindingA))).bind (fun (v8_0, v8_1) =>
    (idx p0 i1_1).bind fun x18 =>
    if (!(x18.name.toList == p1.toList)) then
     (appO 72 v8_1 [x18]).bind fun l21 =>
     some (l21, v8_0)
    else
     some (v8_1, v8_0))) : Option ((List Api_BindingA) × Bool)).bind (fun (v6_0, v6_1) =>
   again (v6_1, IntKind.wrap .i64 (i1_1 + (1 : Int)), v6_0))
  else
   some (i1_0, i1_2)) (((p2.num.length : Int) == (0 : Int)), (0 : Int), [])) : Option (Bool × (List Api_BindingA))).bind (fun (e2_0, e2_1) =>
 if (!e2_0) then
  (appO 72 e2_1 [(Api_BindingA.mk p1 p2)]).bind fun l24 =>
  some l24
 else
  some e2_1)
set_option maxHeartbeats 4000000 in
theorem r11_set_ok {K : Nat} {p0 : List Api_BindingA} {p1 : ByteArray} {p2 : RatA} {r : (List Api_BindingA)} (h : r11_set K p0 p1 p2 = some r) : Cn Tryz.prog 26 [.d (slD Api_BindingA.enc p0), .d (.val (.string p1)), aggV p2.enc] (.d (slD Api_BindingA.enc r)) := by
 refine Cn.oz Tryz.func26 Tryz.call26 Tryz.ntmps26 Tryz.results26 fun hfit => ?_
 unfold r11_set at h
 refine AW.kr [] [0, 1, 2] ?_
 refine AW.kr [0] [0, 1, 5] ?_
 refine AW.kr [0] [0, 1, 5, 7] ?_
 refine AW.ks [0] [0, 1, 5, 7, 8] ?_
 refine AW.one ?_
 refine AW.ro ?_
 refine AW.ks [0] [0, 1, 5, 7, 8, 9] ?_
 refine AW.lm h (fun (e2_0, e2_1) => [(1, vS p1), (5, .ptr 0 3 0 0), (7, accV 1 4 ((e2_1.map Api_BindingA.enc).map (·.map .d))), (8, vB e2_0)]) (fun (e2_0, e2_1) => [vE p2.enc, accO 4 ((e2_1.map Api_BindingA.enc).map (·.map .d))]) (fun (i1_0, i1_1, i1_2) => [(0, vL Api_BindingA.enc p0), (1, vS p1), (5, .ptr 0 3 0 0), (7, accV 1 4 ((i1_2.map Api_BindingA.enc).map (·.map .d))), (8, vB i1_0), (9, vI i1_1)]) (fun (i1_0, i1_1, i1_2) => [vE p2.enc, accO 4 ((i1_2.map Api_BindingA.enc).map (·.map .d))]) [0, 1001] (fun oJ4 again ⟨i1_0, i1_1, i1_2⟩ h => ?_) fun ⟨e2_0, e2_1⟩ h => ?_
 ·try dsimp only at h
  refine AW.one ?_
  refine AW.ro ?_
  refine AW.ks [0, 1] [0, 1, 5, 7, 8, 9, 17] ?_
  refine AW.tt h (fun hb5 h => ?_) fun hb5 h => ?_
  ·refine AW.sk ?_
   refine AW.ks [0, 1] [0, 1, 5, 7, 8, 9] ?_
   refine AW.jn h (fun (v6_0, v6_1) => [(0, vL Api_BindingA.enc p0), (1, vS p1), (5, .ptr 0 3 0 0), (7, accV 1 4 ((v6_0.map Api_BindingA.enc).map (·.map .d))), (8, vB v6_1), (9, vI i1_1)]) (fun (v6_0, v6_1) => [vE p2.enc, accO 4 ((v6_0.map Api_BindingA.enc).map (·.map .d))]) (fun oJ7 h => ?_) fun ⟨v6_0, v6_1⟩ h => ?_
   ·refine AW.block ?_
    refine AW.jn h (fun (v8_0, v8_1) => [(0, vL Api_BindingA.enc p0), (1, vS p1), (5, .ptr 0 3 0 0), (7, accV 1 4 ((v8_1.map Api_BindingA.enc).map (·.map .d))), (8, vB v8_0), (9, vI i1_1)]) (fun (v8_0, v8_1) => [vE p2.enc, accO 4 ((v8_1.map Api_BindingA.enc).map (·.map .d))]) (fun oJ9 h => ?_) fun ⟨v8_0, v8_1⟩ h => ?_
    ·refine AW.jn h (fun v10_0 => [(0, vL Api_BindingA.enc p0), (1, vS p1), (5, .ptr 0 3 0 0), (7, accV 1 4 ((i1_2.map Api_BindingA.enc).map (·.map .d))), (8, vB i1_0), (9, vI i1_1), (30, vB v10_0)]) (fun v10_0 => [vE p2.enc, accO 4 ((i1_2.map Api_BindingA.enc).map (·.map .d))]) (fun oJ11 h => ?_) fun v10_0 h => ?_
     ·refine AW.rp ?_
      refine sK h (fun hb12 h => ?_) fun hb12 h => ?_
      ·refine bx h fun x13 h0 h1 h => ?_
       exact ja [0, 1] h
      exact ja [0, 1] h
     refine AW.tk h (fun hb15 h => ?_) fun hb15 h => ?_
     ·refine AW.ro ?_
      refine ag (f := Api_BindingA.enc) h fun l16 hx17 h => ?_
      refine AW.ks [0, 7] [0, 1, 5, 7, 9] ?_
      refine AW.rp ?_
      exact ja [0, 1] h
     exact ja [0, 1] h
    try dsimp only at h
    refine AW.ro ?_
    refine bx h fun x18 h0 h1 h => ?_
    refine AW.ks [0, 1] [0, 1, 5, 7, 8, 9, 43] ?_
    refine AW.tk h (fun hb20 h => ?_) fun hb20 h => ?_
    ·refine AW.rp ?_
     refine ag (f := Api_BindingA.enc) h fun l21 hx22 h => ?_
     exact ja [0, 8] h
    exact ja [0, 1] h
   try dsimp only at h
   refine AW.rp ?_
   exact na [0, 1] h
  refine AW.ex ?_
  exact ja [0, 1] h
 try dsimp only at h
 refine AW.ks [0, 1] [1, 5, 7, 8] ?_
 refine AW.one ?_
 refine AW.ro ?_
 refine AW.ks [0, 1] [1, 5, 7, 52] ?_
 refine AW.tk h (fun hb23 h => ?_) fun hb23 h => ?_
 ·refine AW.rp ?_
  refine ag (f := Api_BindingA.enc) h fun l24 hx25 h => ?_
  refine AW.kr [7] [7] ?_
  refine AW.ret ?_
  cases h; refine nz ?_; exact sealAcc (by simp only [go_sem, reduceEqDiff, reduceAdd, reduceSub, reduceMul, reduceLeDiff, reduceLT, Nat.reduceBEq, reduceIte])
 refine AW.kr [1] [7] ?_
 refine AW.ret ?_
 cases h; refine nz ?_; exact sealAcc (by simp only [go_sem, reduceEqDiff, reduceAdd, reduceSub, reduceMul, reduceLeDiff, reduceLT, Nat.reduceBEq, reduceIte])
/-! ### isochrone/isochroneref11.Set -/
def r11_Set (K : Nat) (p0 : List Api_BindingA) (p1 : ByteArray) (p2 : RatA) : Option ((List Api_BindingA) × Int) := ((
  ((
   (r11_Valid K p0).bind fun r5 =>
   if (!r5) then
    some true
   else
    (r10_Variable K p1).bind fun r8 =>
    if (!r8) then
     some true
    else
     (r11_small K p2 (400 : Int)).bind fun r11 =>
     some (!r11)) : Option Bool).bind (fun v3_0 =>
  if v3_0 then
   outM (
    some ([], (3 : Int)))
  else
   some (.go ()))) : Option (Out Unit _)).bind (Out.fin fun _ =>
 (r11_set K p0 p1 p2).bind fun r14 =>
 if (decide ((40 : Int) < (r14.length : Int))) then
  some ([], (2 : Int))
 else
  some (r14, (0 : Int)))
set_option maxHeartbeats 4000000 in
theorem r11_Set_ok {K : Nat} {p0 : List Api_BindingA} {p1 : ByteArray} {p2 : RatA} {r : (List Api_BindingA) × Int} (h : r11_Set K p0 p1 p2 = some r) : Cn Tryz.prog 9 [.d (slD Api_BindingA.enc p0), .d (.val (.string p1)), aggV p2.enc] (.tup [.d (slD Api_BindingA.enc r.1), .d (.val (.int .i64 r.2))]) := by
 refine Cn.oz Tryz.func9 Tryz.call9 Tryz.ntmps9 Tryz.results9 fun hfit => ?_
 unfold r11_Set at h
 refine AW.kr [] [0, 1, 2] ?_
 refine AW.ks [0] [0, 1, 5] ?_
 refine AW.jo h (fun _ => [(0, vL Api_BindingA.enc p0), (1, vS p1), (5, .ptr 0 3 0 0)]) (fun _ => [vE p2.enc]) (fun oJ2 h hJ2 => ?_) fun ⟨⟩ h => ?_
 ·refine AW.jn h (fun v3_0 => [(0, vL Api_BindingA.enc p0), (1, vS p1), (5, .ptr 0 3 0 0), (21, vB v3_0)]) (fun v3_0 => [vE p2.enc]) (fun oJ4 h => ?_) fun v3_0 h => ?_
  ·refine AW.rp ?_
   refine cm h r11_Valid_ok fun r5 hx6 h => ?_
   refine sK h (fun hb7 h => ?_) fun hb7 h => ?_
   ·exact ja [0] h
   refine cm h r10_Variable_ok fun r8 hx9 h => ?_
   refine sK h (fun hb10 h => ?_) fun hb10 h => ?_
   ·exact ja [0] h
   refine cm h r11_small_ok fun r11 hx12 h => ?_
   exact ja [0] h
  refine AW.tk h (fun hb13 h => ?_) fun hb13 h => ?_
  ·refine AW.ro ?_
   refine AW.ret ?_
   have h := up h hJ2
   cases h; refine nz ?_; exact .tupL ⟨.nil, .same _, trivial⟩
  exact jo [0] h
 refine AW.ro ?_
 refine cm h r11_set_ok fun r14 hx15 h => ?_
 refine AW.ks [] [8] ?_
 refine AW.one ?_
 refine AW.ro ?_
 refine AW.ks [] [8, 28] ?_
 refine AW.tk h (fun hb16 h => ?_) fun hb16 h => ?_
 ·refine AW.ro ?_
  refine AW.ret ?_
  cases h; refine nz ?_; exact .tupL ⟨.nil, .same _, trivial⟩
 refine AW.kr [] [8] ?_
 refine AW.ret ?_
 cases h; refine nz ?_; exact .same _
/-! ### isochrone/isochroneref11.Truth -/
def r11_Truth (K : Nat) (p0 : NodeA) (p1 : List Api_BindingA) (p2 : List Api_PairA) : Option (Bool × Int) := (r08_Check K p0 (2 : Int)).bind fun r1 =>
 if (r1 != (0 : Int)) then
  some (false, r1)
 else
  ((
   ((
    (r11_Valid K p1).bind fun r8 =>
    if (!r8) then
     some true
    else
     (r11_Check K p2).bind fun r11 =>
     some (r11 != (0 : Int))) : Option Bool).bind (fun v6_0 =>
   if v6_0 then
    outM (
     some (false, (3 : Int)))
   else
    some (.go ()))) : Option (Out Unit _)).bind (Out.fin fun _ =>
  (r11_Modal K p0).bind fun r14 =>
  if r14 then
   some (false, (111 : Int))
  else
   (r11_Unknown K p0 p2).bind fun r17 =>
   if r17 then
    some (false, (110 : Int))
   else
    (r02_Zero K ).bind fun r20 =>
    (r11_plain K r20 (4096 : Int)).bind fun r22 =>
    (r11_truth K p0 p1 p2 r22).bind fun r24 =>
    if r24.2 then
     some (false, (2 : Int))
    else
     some (r24.1, (0 : Int)))
set_option maxHeartbeats 4000000 in
theorem r11_Truth_ok {K : Nat} {p0 : NodeA} {p1 : List Api_BindingA} {p2 : List Api_PairA} {r : Bool × Int} (h : r11_Truth K p0 p1 p2 = some r) : Cn Tryz.prog 11 [aggV p0.enc, .d (slD Api_BindingA.enc p1), .d (slD Api_PairA.enc p2)] (.tup [.d (.val (.bool r.1)), .d (.val (.int .i64 r.2))]) := by
 refine Cn.oz Tryz.func11 Tryz.call11 Tryz.ntmps11 Tryz.results11 fun hfit => ?_
 unfold r11_Truth at h
 refine AW.kr [] [0, 1, 2] ?_
 refine AW.ks [0] [1, 2, 3] ?_
 refine AW.one ?_
 refine AW.ro ?_
 refine cm h r08_Check_ok fun r1 hx2 h => ?_
 refine AW.kr [0] [1, 2, 3, 8] ?_
 refine AW.ks [0] [1, 2, 3, 8, 14] ?_
 refine AW.tk h (fun hb3 h => ?_) fun hb3 h => ?_
 ·refine AW.ro ?_
  refine AW.ret ?_
  cases h; refine nz ?_; exact .same _
 refine AW.ks [0] [1, 2, 3] ?_
 refine AW.jo h (fun _ => [(1, vL Api_BindingA.enc p1), (2, vL Api_PairA.enc p2), (3, .ptr 0 6 0 0)]) (fun _ => [vE p0.enc]) (fun oJ5 h hJ5 => ?_) fun ⟨⟩ h => ?_
 ·refine AW.jn h (fun v6_0 => [(1, vL Api_BindingA.enc p1), (2, vL Api_PairA.enc p2), (3, .ptr 0 6 0 0), (23, vB v6_0)]) (fun v6_0 => [vE p0.enc]) (fun oJ7 h => ?_) fun v6_0 h => ?_
  ·refine AW.rp ?_
   refine cm h r11_Valid_ok fun r8 hx9 h => ?_
   refine sK h (fun hb10 h => ?_) fun hb10 h => ?_
   ·exact ja [0] h
   refine cm h r11_Check_ok fun r11 hx12 h => ?_
   exact ja [0] h
  refine AW.tk h (fun hb13 h => ?_) fun hb13 h => ?_
  ·refine AW.ro ?_
   refine AW.ret ?_
   have h := up h hJ5
   cases h; refine nz ?_; exact .same _
  exact jo [0] h
 refine AW.one ?_
 refine AW.ro ?_
 refine cm h r11_Modal_ok fun r14 hx15 h => ?_
 refine AW.ks [0] [1, 2, 3, 25] ?_
 refine AW.tk h (fun hb16 h => ?_) fun hb16 h => ?_
 ·refine AW.ro ?_
  refine AW.ret ?_
  cases h; refine nz ?_; exact .same _
 refine AW.ks [0] [1, 2, 3] ?_
 refine AW.one ?_
 refine AW.ro ?_
 refine cm h r11_Unknown_ok fun r17 hx18 h => ?_
 refine AW.ks [0] [1, 2, 3, 28] ?_
 refine AW.tk h (fun hb19 h => ?_) fun hb19 h => ?_
 ·refine AW.ro ?_
  refine AW.ret ?_
  cases h; refine nz ?_; exact .same _
 refine AW.kr [0] [1, 2, 3] ?_
 refine pm h r02_Zero_ok fun r20 hx21 h => ?_
 refine pm h r11_plain_ok fun r22 hx23 h => ?_
 refine pm h r11_truth_ok fun r24 hx25 h => ?_
 refine AW.ks [] [9, 10] ?_
 refine AW.one ?_
 refine AW.ro ?_
 refine AW.ks [] [9, 38] ?_
 refine AW.tk h (fun hb26 h => ?_) fun hb26 h => ?_
 ·refine AW.ro ?_
  refine AW.ret ?_
  cases h; refine nz ?_; exact .same _
 refine AW.kr [] [9] ?_
 refine AW.ret ?_
 cases h; refine nz ?_; exact .same _
/-! ### isochrone/rename.Uniform -/
def rename_Uniform (K : Nat) (p0 : NodeA) (p1 : ByteArray) (p2 : ByteArray) : Option (NodeA × Int) := (rename_check K p0).bind fun r1 =>
 if (r1 != (0 : Int)) then
  some ((NodeA.mk (0 : Int) (⟨#[]⟩ : ByteArray) (RatA.mk false [] []) []), r1)
 else
  ((
   ((
    (tree_Name K p1).bind fun r8 =>
    if (!r8) then
     some true
    else
     (tree_Name K p2).bind fun r11 =>
     some (!r11)) : Option Bool).bind (fun v6_0 =>
   if v6_0 then
    outM (
     some ((NodeA.mk (0 : Int) (⟨#[]⟩ : ByteArray) (RatA.mk false [] []) []), (3 : Int)))
   else
    some (.go ()))) : Option (Out Unit _)).bind (Out.fin fun _ =>
  (rename_renamable K p0).bind fun r14 =>
  if (!r14) then
   some ((NodeA.mk (0 : Int) (⟨#[]⟩ : ByteArray) (RatA.mk false [] []) []), (180 : Int))
  else
   (rename_uniform K p0 p1 p2).bind fun r17 =>
   some (r17, (0 : Int)))
set_option maxHeartbeats 4000000 in
theorem rename_Uniform_ok {K : Nat} {p0 : NodeA} {p1 : ByteArray} {p2 : ByteArray} {r : NodeA × Int} (h : rename_Uniform K p0 p1 p2 = some r) : Cn Tryz.prog 7 [aggV p0.enc, .d (.val (.string p1)), .d (.val (.string p2))] (.tup [aggV r.1.enc, .d (.val (.int .i64 r.2))]) := by
 refine Cn.oz Tryz.func7 Tryz.call7 Tryz.ntmps7 Tryz.results7 fun hfit => ?_
 unfold rename_Uniform at h
 refine AW.kr [] [0, 1, 2] ?_
 refine AW.ks [0, 1] [1, 2, 3, 6] ?_
 refine AW.one ?_
 refine AW.ro ?_
 refine cm h rename_check_ok fun r1 hx2 h => ?_
 refine AW.kr [0, 1] [1, 2, 3, 6, 8] ?_
 refine AW.ks [0, 1] [1, 2, 3, 6, 8, 12] ?_
 refine AW.tk h (fun hb3 h => ?_) fun hb3 h => ?_
 ·refine AW.ro ?_
  refine AW.ret ?_
  cases h; refine nz ?_; exact .tupL ⟨.aggL ⟨.same _, .same _, .same _, .nil, .nil, .nil, trivial⟩, .same _, trivial⟩
 refine AW.ks [0, 1] [1, 2, 3, 6] ?_
 refine AW.jo h (fun _ => [(1, vS p1), (2, vS p2), (3, .ptr 0 6 0 0), (6, .ptr 1 6 0 0)]) (fun _ => [vE p0.enc, some ⟨6, [[vI (0 : Int), vS (⟨#[]⟩ : ByteArray), vB false, .d (.val (.slice none 0 0)), .d (.val (.slice none 0 0)), .d (.val (.slice none 0 0))]]⟩]) (fun oJ5 h hJ5 => ?_) fun ⟨⟩ h => ?_
 ·refine AW.jn h (fun v6_0 => [(1, vS p1), (2, vS p2), (3, .ptr 0 6 0 0), (6, .ptr 1 6 0 0), (22, vB v6_0)]) (fun v6_0 => [vE p0.enc, some ⟨6, [[vI (0 : Int), vS (⟨#[]⟩ : ByteArray), vB false, .d (.val (.slice none 0 0)), .d (.val (.slice none 0 0)), .d (.val (.slice none 0 0))]]⟩]) (fun oJ7 h => ?_) fun v6_0 h => ?_
  ·refine AW.rp ?_
   refine cm h tree_Name_ok fun r8 hx9 h => ?_
   refine sK h (fun hb10 h => ?_) fun hb10 h => ?_
   ·exact ja [0, 1] h
   refine cm h tree_Name_ok fun r11 hx12 h => ?_
   exact ja [0, 1] h
  refine AW.tk h (fun hb13 h => ?_) fun hb13 h => ?_
  ·refine AW.ro ?_
   refine AW.ret ?_
   have h := up h hJ5
   cases h; refine nz ?_; exact .tupL ⟨.aggL ⟨.same _, .same _, .same _, .nil, .nil, .nil, trivial⟩, .same _, trivial⟩
  exact jo [0, 1] h
 refine AW.one ?_
 refine AW.ro ?_
 refine cm h rename_renamable_ok fun r14 hx15 h => ?_
 refine AW.ks [0, 1] [1, 2, 3, 6, 26] ?_
 refine AW.tk h (fun hb16 h => ?_) fun hb16 h => ?_
 ·refine AW.ro ?_
  refine AW.ret ?_
  cases h; refine nz ?_; exact .tupL ⟨.aggL ⟨.same _, .same _, .same _, .nil, .nil, .nil, trivial⟩, .same _, trivial⟩
 refine AW.kr [0, 1] [1, 2, 3, 6] ?_
 refine cm h rename_uniform_ok fun r17 hx18 h => ?_
 refine AW.ret ?_
 cases h; refine nz ?_; exact .same _
/-! ### isochrone/isochronelaw18.RenameMoves -/
def law18_RenameMoves (K : Nat) (p0 : NodeA) (p1 : ByteArray) (p2 : ByteArray) (p3 : List Api_BindingA) : Option Bool := (law18_awake K ).bind fun r1 =>
 if (!r1) then
  some false
 else
  ((
   ((
    (r08_Size K p0).bind fun r8 =>
    if (decide ((300 : Int) < r8)) then
     some true
    else
     if (decide ((20 : Int) < (p3.length : Int))) then
      some true
     else
      (r08_Check K p0 (2 : Int)).bind fun r12 =>
      some (r12 != (0 : Int))) : Option Bool).bind (fun v6_0 =>
   if v6_0 then
    outM (
     some true)
   else
    some (.go ()))) : Option (Out Unit _)).bind (Out.fin fun _ =>
  (rename_Uniform K p0 p1 p2).bind fun r15 =>
  if (r15.2 != (0 : Int)) then
   some true
  else
   (catO p1 (⟨#[39]⟩ : ByteArray)).bind fun s18 =>
   (catO p2 (⟨#[39]⟩ : ByteArray)).bind fun s20 =>
   (some [p1, p2, s18, s20]).bind fun l22 =>
   ((iter (S := (List Api_BindingA) × Int) (R := Out (List Api_BindingA) _) K (fun again (i24_0, i24_1) =>
    if (decide (i24_1 < (4 : Int))) then
     (idx l22 (bXor .i64 i24_1 (1 : Int))).bind fun x29 =>
     (r11_Get K p3 x29).bind fun r31 =>
     if (r31.2 != (0 : Int)) then
      outM (
       some true)
     else
      (idx l22 i24_1).bind fun x34 =>
      (r11_Set K i24_0 x34 r31.1).bind fun r36 =>
      if (r36.2 != (0 : Int)) then
       outM (
        some false)
      else
       again (r36.1, IntKind.wrap .i64 (i24_1 + (1 : Int)))
    else
     some (.go i24_0)) (p3, (0 : Int))) : Option (Out (List Api_BindingA) _)).bind (Out.fin fun e25_0 =>
   (r11_Long K p0 p3 []).bind fun r39 =>
   if r39 then
    some true
   else
    (r11_Truth K p0 p3 []).bind fun r42 =>
    (r11_Truth K r15.1 e25_0 []).bind fun r44 =>
    if (r42.2 == r44.2) then
     some (r42.1 == r44.1)
    else
     some false))
set_option maxHeartbeats 4000000 in
theorem law18_RenameMoves_ok {K : Nat} {p0 : NodeA} {p1 : ByteArray} {p2 : ByteArray} {p3 : List Api_BindingA} {r : Bool} (h : law18_RenameMoves K p0 p1 p2 p3 = some r) : Cn Tryz.prog 3 [aggV p0.enc, .d (.val (.string p1)), .d (.val (.string p2)), .d (slD Api_BindingA.enc p3)] (.d (.val (.bool r))) := by
 refine Cn.ofA mixed Tryz.func3 rfl Tryz.call3 Tryz.ntmps3 Tryz.results3 (by simp) (by simp only [go_sem, reduceEqDiff, reduceAdd, reduceSub, reduceMul, reduceLeDiff, reduceLT, Nat.reduceBEq, reduceIte]) fun hfit => ?_
 unfold law18_RenameMoves at h
 refine AW.kp [] [0, 1, 2, 3] ?_
 refine AW.op mixed ?_
 refine AW.kp [0] [1, 2, 3, 4] ?_
 refine AW.one ?_
 refine AW.op mixed ?_
 apply obindE h; intro r1 hx2 h
 have hc := nx (law18_awake_ok (h := hx2))
 refine callP hc ?_
 refine AW.kp [0] [1, 2, 3, 4, 22] ?_
 refine AW.ts (!r1) (fun hb3 => ?_) (fun hb3 => ?_)
 ·have h := ifT hb3 h
  refine AW.op mixed ?_
  refine AW.ret ?_
  obtain rfl := Option.some.inj h
  refine nz ?_
  exact .same _
 have h := ifF hb3 h
 refine AW.sk ?_
 refine AW.kp [0] [1, 2, 3, 4] ?_
 refine AW.one ?_
 refine obindE h fun oJ5 h hJ5 => ?_
 refine AW.join (S := Unit) (fun _ => [(1, .d (.val (.string p1))), (2, .d (.val (.string p2))), (3, .d (slD Api_BindingA.enc p3)), (4, .ptr 0 6 0 0)]) (fun _ => [some ⟨6, [[.d (.val (.int .i64 p0.op)), .d (.val (.string p0.name)), .d (.val (.bool p0.num.neg)), .d (slD u32V p0.num.num), .d (slD u32V p0.num.den), .d (slD NodeA.enc p0.kids)]]⟩]) (fun x => oJ5 = .go x) ?_ ?_
 ·skip
  refine AW.one ?_
  refine obindE h fun oJ7 h hJ7 => ?_
  refine AW.join (S := Bool) (fun v6_0 => [(1, .d (.val (.string p1))), (2, .d (.val (.string p2))), (3, .d (slD Api_BindingA.enc p3)), (4, .ptr 0 6 0 0), (35, .d (.val (.bool v6_0)))]) (fun v6_0 => [some ⟨6, [[.d (.val (.int .i64 p0.op)), .d (.val (.string p0.name)), .d (.val (.bool p0.num.neg)), .d (slD u32V p0.num.num), .d (slD u32V p0.num.den), .d (slD NodeA.enc p0.kids)]]⟩]) (fun x => x = oJ7) ?_ ?_
  ·skip
   refine AW.rg mixed ?_
   apply obindE h; intro r8 hx9 h
   have hc := nx (r08_Size_ok (h := hx9))
   refine callP hc ?_
   refine splitK_intro (fun hb10 => ?_) (fun hb10 => ?_)
   ·have h := ifT hb10 h
    try simp only [go_sem, reduceEqDiff, reduceAdd, reduceSub, reduceMul, reduceLeDiff, reduceLT, Nat.reduceBEq, reduceIte, hb10]
    refine JoinQ.mk true [0] (Option.some.inj h) (by simp only [go_sem, reduceEqDiff, reduceAdd, reduceSub, reduceMul, reduceLeDiff, reduceLT, Nat.reduceBEq, reduceIte, hb10])
   have h := ifF hb10 h
   try simp only [go_sem, reduceEqDiff, reduceAdd, reduceSub, reduceMul, reduceLeDiff, reduceLT, Nat.reduceBEq, reduceIte, hb10]
   refine splitK_intro (fun hb11 => ?_) (fun hb11 => ?_)
   ·have h := ifT hb11 h
    try simp only [go_sem, reduceEqDiff, reduceAdd, reduceSub, reduceMul, reduceLeDiff, reduceLT, Nat.reduceBEq, reduceIte, hb10, hb11]
    refine JoinQ.mk true [0] (Option.some.inj h) (by simp only [go_sem, reduceEqDiff, reduceAdd, reduceSub, reduceMul, reduceLeDiff, reduceLT, Nat.reduceBEq, reduceIte, hb10, hb11])
   have h := ifF hb11 h
   try simp only [go_sem, reduceEqDiff, reduceAdd, reduceSub, reduceMul, reduceLeDiff, reduceLT, Nat.reduceBEq, reduceIte, hb10, hb11]
   apply obindE h; intro r12 hx13 h
   have hc := nx (r08_Check_ok (h := hx13))
   refine callK_pure hc (by simp only [go_sem, reduceEqDiff, reduceAdd, reduceSub, reduceMul, reduceLeDiff, reduceLT, Nat.reduceBEq, reduceIte]) ?_
   try simp only [go_sem, reduceEqDiff, reduceAdd, reduceSub, reduceMul, reduceLeDiff, reduceLT, Nat.reduceBEq, reduceIte, hb10, hb11]
   refine JoinQ.mk (r12 != (0 : Int)) [0] (Option.some.inj h) (by simp only [go_sem, reduceEqDiff, reduceAdd, reduceSub, reduceMul, reduceLeDiff, reduceLT, Nat.reduceBEq, reduceIte, hb10, hb11])
  rintro v6_0 rfl
  have h := hJ7
  try dsimp only [Out.fin] at h
  refine nz ?_
  refine AW.ts v6_0 (fun hb14 => ?_) (fun hb14 => ?_)
  ·have h := ifT hb14 h
   refine AW.op mixed ?_
   refine AW.ret ?_
   obtain ⟨_, h, ho⟩ := outM_some h
   rw [ho, Out.fin_out] at hJ5
   have h := h.trans hJ5
   obtain rfl := Option.some.inj h
   refine nz ?_
   exact .same _
  have h := ifF hb14 h
  refine AW.sk ?_
  exact JoinQ.ar () [0] (Option.some.inj h).symm
 rintro ⟨⟩ rfl
 have h := hJ5
 try dsimp only [Out.fin] at h
 refine nz ?_
 refine AW.op mixed ?_
 apply obindE h; intro r15 hx16 h
 have hc := nx (rename_Uniform_ok (h := hx16))
 refine callP hc ?_
 refine AW.kp [0, 8] [1, 2, 3, 4, 9, 10] ?_
 refine AW.one ?_
 refine AW.op mixed ?_
 refine AW.kp [0, 1] [1, 2, 3, 4, 9, 44] ?_
 refine AW.ts (r15.2 != (0 : Int)) (fun hb17 => ?_) (fun hb17 => ?_)
 ·have h := ifT hb17 h
  refine AW.op mixed ?_
  refine AW.ret ?_
  obtain rfl := Option.some.inj h
  refine nz ?_
  exact .same _
 have h := ifF hb17 h
 refine AW.sk ?_
 refine AW.kp [0, 1] [1, 2, 3, 4, 9] ?_
 refine AW.op mixed ?_
 refine AW.kp [0, 1] [1, 2, 3, 4, 9, 11] ?_
 refine AW.op mixed ?_
 apply obindE h; intro s18 hx19 h
 try simp only [go_sem, reduceEqDiff, reduceAdd, reduceSub, reduceMul, reduceLeDiff, reduceLT, Nat.reduceBEq, reduceIte, bop_cat (P := Tryz.prog) hx19]
 apply obindE h; intro s20 hx21 h
 try simp only [go_sem, reduceEqDiff, reduceAdd, reduceSub, reduceMul, reduceLeDiff, reduceLT, Nat.reduceBEq, reduceIte, bop_cat (P := Tryz.prog) hx19, bop_cat (P := Tryz.prog) hx21]
 apply obindE h; intro l22 hx23 h
 refine AW.cut [0, 1] [(3, .d (slD Api_BindingA.enc p3)), (4, .ptr 0 6 0 0), (9, .ptr 1 6 0 0), (11, .d (slD Api_BindingA.enc p3)), (12, .d (slD strV l22))] [some ⟨6, [[.d (.val (.int .i64 p0.op)), .d (.val (.string p0.name)), .d (.val (.bool p0.num.neg)), .d (slD u32V p0.num.num), .d (slD u32V p0.num.den), .d (slD NodeA.enc p0.kids)]]⟩, some ⟨6, [[.d (.val (.int .i64 r15.1.op)), .d (.val (.string r15.1.name)), .d (.val (.bool r15.1.num.neg)), .d (slD u32V r15.1.num.num), .d (slD u32V r15.1.num.den), .d (slD NodeA.enc r15.1.kids)]]⟩] (by simp only [go_sem, reduceEqDiff, reduceAdd, reduceSub, reduceMul, reduceLeDiff, reduceLT, Nat.reduceBEq, reduceIte, bop_cat (P := Tryz.prog) hx19, bop_cat (P := Tryz.prog) hx21, (Option.some.inj hx23).symm, slD]) ?_
 refine AW.one ?_
 refine AW.op mixed ?_
 refine AW.kp [0, 1] [3, 4, 9, 11, 12, 13] ?_
 refine obindE h fun oJ27 h hJ27 => ?_
 refine AW.join (S := (List Api_BindingA)) (fun e25_0 => [(3, .d (slD Api_BindingA.enc p3)), (4, .ptr 0 6 0 0), (9, .ptr 1 6 0 0), (11, .d (slD Api_BindingA.enc e25_0))]) (fun e25_0 => [some ⟨6, [[.d (.val (.int .i64 p0.op)), .d (.val (.string p0.name)), .d (.val (.bool p0.num.neg)), .d (slD u32V p0.num.num), .d (slD u32V p0.num.den), .d (slD NodeA.enc p0.kids)]]⟩, some ⟨6, [[.d (.val (.int .i64 r15.1.op)), .d (.val (.string r15.1.name)), .d (.val (.bool r15.1.num.neg)), .d (slD u32V r15.1.num.num), .d (slD u32V r15.1.num.den), .d (slD NodeA.enc r15.1.kids)]]⟩]) (fun x => oJ27 = .go x) ?_ ?_
 ·refine AW.block ?_
  refine AW.iter (S := (List Api_BindingA) × Int) (fun (i24_0, i24_1) => [(3, .d (slD Api_BindingA.enc p3)), (4, .ptr 0 6 0 0), (9, .ptr 1 6 0 0), (11, .d (slD Api_BindingA.enc i24_0)), (12, .d (slD strV l22)), (13, .d (.val (.int .i64 i24_1)))]) (fun (i24_0, i24_1) => [some ⟨6, [[.d (.val (.int .i64 p0.op)), .d (.val (.string p0.name)), .d (.val (.bool p0.num.neg)), .d (slD u32V p0.num.num), .d (slD u32V p0.num.den), .d (slD NodeA.enc p0.kids)]]⟩, some ⟨6, [[.d (.val (.int .i64 r15.1.op)), .d (.val (.string r15.1.name)), .d (.val (.bool r15.1.num.neg)), .d (slD u32V r15.1.num.num), .d (slD u32V r15.1.num.den), .d (slD NodeA.enc r15.1.kids)]]⟩]) [0, 1] h (by simp only [go_sem, reduceEqDiff, reduceAdd, reduceSub, reduceMul, reduceLeDiff, reduceLT, Nat.reduceBEq, reduceIte]) ?_
  rintro again ⟨i24_0, i24_1⟩ h
  try dsimp only at h
  refine AW.one ?_
  refine AW.op mixed ?_
  refine AW.kp [0, 1] [3, 4, 9, 11, 12, 13, 54] ?_
  refine AW.ts (decide (i24_1 < (4 : Int))) (fun hb28 => ?_) (fun hb28 => ?_)
  ·have h := ifT hb28 h
   refine AW.sk ?_
   refine AW.kp [0, 1] [3, 4, 9, 11, 12, 13] ?_
   refine AW.one ?_
   refine AW.block ?_
   refine AW.one ?_
   refine AW.reg mixed (by kernel_rfl) ?_
   apply obindE h; intro x29 hx30 h
   try simp only [go_sem, reduceEqDiff, reduceAdd, reduceSub, reduceMul, reduceLeDiff, reduceLT, Nat.reduceBEq, reduceIte, (idx_some hx30).1, (idx_some hx30).2]
   apply obindE h; intro r31 hx32 h
   have hc := nx (r11_Get_ok (h := hx32))
   refine callK_pure hc (by simp only [go_sem, reduceEqDiff, reduceAdd, reduceSub, reduceMul, reduceLeDiff, reduceLT, Nat.reduceBEq, reduceIte]) ?_
   try simp only [go_sem, reduceEqDiff, reduceAdd, reduceSub, reduceMul, reduceLeDiff, reduceLT, Nat.reduceBEq, reduceIte, (idx_some hx30).1, (idx_some hx30).2]
   refine AW.cut [0, 1, 12] [(3, .d (slD Api_BindingA.enc p3)), (4, .ptr 0 6 0 0), (9, .ptr 1 6 0 0), (11, .d (slD Api_BindingA.enc i24_0)), (12, .d (slD strV l22)), (13, .d (.val (.int .i64 i24_1))), (14, .ptr 2 3 0 0), (15, .d (.val (.int .i64 r31.2)))] [some ⟨6, [[.d (.val (.int .i64 p0.op)), .d (.val (.string p0.name)), .d (.val (.bool p0.num.neg)), .d (slD u32V p0.num.num), .d (slD u32V p0.num.den), .d (slD NodeA.enc p0.kids)]]⟩, some ⟨6, [[.d (.val (.int .i64 r15.1.op)), .d (.val (.string r15.1.name)), .d (.val (.bool r15.1.num.neg)), .d (slD u32V r15.1.num.num), .d (slD u32V r15.1.num.den), .d (slD NodeA.enc r15.1.kids)]]⟩, some ⟨3, [[.d (.val (.bool r31.1.neg)), .d (slD u32V r31.1.num), .d (slD u32V r31.1.den)]]⟩] (by simp only [go_sem, reduceEqDiff, reduceAdd, reduceSub, reduceMul, reduceLeDiff, reduceLT, Nat.reduceBEq, reduceIte, (idx_some hx30).1, (idx_some hx30).2]) ?_
   refine AW.one ?_
   refine AW.op mixed ?_
   refine AW.kp [0, 1, 2] [3, 4, 9, 11, 12, 13, 14, 68] ?_
   refine AW.ts (r31.2 != (0 : Int)) (fun hb33 => ?_) (fun hb33 => ?_)
   ·have h := ifT hb33 h
    refine AW.op mixed ?_
    refine AW.ret ?_
    obtain ⟨_, h, ho⟩ := outM_some h
    rw [ho, Out.fin_out] at hJ27
    have h := h.trans hJ27
    obtain rfl := Option.some.inj h
    refine nz ?_
    exact .same _
   have h := ifF hb33 h
   refine AW.sk ?_
   refine AW.kp [0, 1, 2] [3, 4, 9, 11, 12, 13, 14] ?_
   refine AW.one ?_
   refine AW.reg mixed (by kernel_rfl) ?_
   apply obindE h; intro x34 hx35 h
   try simp only [go_sem, reduceEqDiff, reduceAdd, reduceSub, reduceMul, reduceLeDiff, reduceLT, Nat.reduceBEq, reduceIte, (idx_some hx35).1, (idx_some hx35).2]
   apply obindE h; intro r36 hx37 h
   have hc := nx (r11_Set_ok (h := hx37))
   refine pcallK_intro hc (by simp only [go_sem, reduceEqDiff, reduceAdd, reduceSub, reduceMul, reduceLeDiff, reduceLT, Nat.reduceBEq, reduceIte]) ?_
   try simp only [go_sem, reduceEqDiff, reduceAdd, reduceSub, reduceMul, reduceLeDiff, reduceLT, Nat.reduceBEq, reduceIte, (idx_some hx35).1, (idx_some hx35).2]
   refine AW.cut [0, 1] [(3, .d (slD Api_BindingA.enc p3)), (4, .ptr 0 6 0 0), (9, .ptr 1 6 0 0), (12, .d (slD strV l22)), (13, .d (.val (.int .i64 i24_1))), (15, .d (.val (.int .i64 r36.2))), (16, .d (slD Api_BindingA.enc r36.1))] [some ⟨6, [[.d (.val (.int .i64 p0.op)), .d (.val (.string p0.name)), .d (.val (.bool p0.num.neg)), .d (slD u32V p0.num.num), .d (slD u32V p0.num.den), .d (slD NodeA.enc p0.kids)]]⟩, some ⟨6, [[.d (.val (.int .i64 r15.1.op)), .d (.val (.string r15.1.name)), .d (.val (.bool r15.1.num.neg)), .d (slD u32V r15.1.num.num), .d (slD u32V r15.1.num.den), .d (slD NodeA.enc r15.1.kids)]]⟩] (by simp only [go_sem, reduceEqDiff, reduceAdd, reduceSub, reduceMul, reduceLeDiff, reduceLT, Nat.reduceBEq, reduceIte, (idx_some hx35).1, (idx_some hx35).2]) ?_
   refine AW.one ?_
   refine AW.op mixed ?_
   refine AW.kp [0, 1] [3, 4, 9, 12, 13, 16, 80] ?_
   refine AW.ts (r36.2 != (0 : Int)) (fun hb38 => ?_) (fun hb38 => ?_)
   ·have h := ifT hb38 h
    refine AW.op mixed ?_
    refine AW.ret ?_
    obtain ⟨_, h, ho⟩ := outM_some h
    rw [ho, Out.fin_out] at hJ27
    have h := h.trans hJ27
    obtain rfl := Option.some.inj h
    refine nz ?_
    exact .same _
   have h := ifF hb38 h
   refine AW.sk ?_
   refine AW.kp [0, 1] [3, 4, 9, 12, 13, 16] ?_
   refine AW.rg mixed ?_
   refine AW.kp [0, 1] [3, 4, 9, 11, 12, 13] ?_
   refine AW.rg mixed ?_
   exact NextQ.ar (r36.1, IntKind.wrap .i64 (i24_1 + (1 : Int))) [0, 1] h
  have h := ifF hb28 h
  refine AW.ex ?_
  exact JoinQ.ar i24_0 [0, 1] (Option.some.inj h).symm
 rintro e25_0 rfl
 have h := hJ27
 try dsimp only [Out.fin] at h
 refine nz ?_
 refine AW.kp [0, 1] [3, 4, 9, 11] ?_
 refine AW.one ?_
 refine AW.op mixed ?_
 apply obindE h; intro r39 hx40 h
 have hc := nx (r11_Long_ok (h := hx40))
 refine callK_conv hc ⟨.same _, .same _, .nil, trivial⟩ (by simp only [go_sem, reduceEqDiff, reduceAdd, reduceSub, reduceMul, reduceLeDiff, reduceLT, Nat.reduceBEq, reduceIte]) ?_
 try simp only [go_sem, reduceEqDiff, reduceAdd, reduceSub, reduceMul, reduceLeDiff, reduceLT, Nat.reduceBEq, reduceIte]
 refine AW.kp [0, 1] [3, 4, 9, 11, 84] ?_
 refine AW.ts r39 (fun hb41 => ?_) (fun hb41 => ?_)
 ·have h := ifT hb41 h
  refine AW.op mixed ?_
  refine AW.ret ?_
  obtain rfl := Option.some.inj h
  refine nz ?_
  exact .same _
 have h := ifF hb41 h
 refine AW.sk ?_
 refine AW.kp [0, 1] [3, 4, 9, 11] ?_
 refine AW.op mixed ?_
 apply obindE h; intro r42 hx43 h
 have hc := nx (r11_Truth_ok (h := hx43))
 refine callK_conv hc ⟨.same _, .same _, .nil, trivial⟩ (by simp only [go_sem, reduceEqDiff, reduceAdd, reduceSub, reduceMul, reduceLeDiff, reduceLT, Nat.reduceBEq, reduceIte]) ?_
 try simp only [go_sem, reduceEqDiff, reduceAdd, reduceSub, reduceMul, reduceLeDiff, reduceLT, Nat.reduceBEq, reduceIte]
 refine AW.kp [1] [9, 11, 17, 18] ?_
 refine AW.op mixed ?_
 apply obindE h; intro r44 hx45 h
 have hc := nx (r11_Truth_ok (h := hx45))
 refine callK_conv hc ⟨.same _, .same _, .nil, trivial⟩ (by simp only [go_sem, reduceEqDiff, reduceAdd, reduceSub, reduceMul, reduceLeDiff, reduceLT, Nat.reduceBEq, reduceIte]) ?_
 try simp only [go_sem, reduceEqDiff, reduceAdd, reduceSub, reduceMul, reduceLeDiff, reduceLT, Nat.reduceBEq, reduceIte]
 refine AW.kp [] [17, 18, 19, 20] ?_
 refine AW.op mixed ?_
 refine splitK_intro (fun hb46 => ?_) (fun hb46 => ?_)
 ·have h := ifT hb46 h
  try simp only [go_sem, reduceEqDiff, reduceAdd, reduceSub, reduceMul, reduceLeDiff, reduceLT, Nat.reduceBEq, reduceIte, hb46]
  refine AW.ret ?_
  obtain rfl := Option.some.inj h
  refine nz ?_
  exact .same _
 have h := ifF hb46 h
 try simp only [go_sem, reduceEqDiff, reduceAdd, reduceSub, reduceMul, reduceLeDiff, reduceLT, Nat.reduceBEq, reduceIte, hb46]
 refine AW.ret ?_
 obtain rfl := Option.some.inj h
 refine nz ?_
 exact .same _
end Go.Proofs.YtphgabghcedphaaGreatDoor
