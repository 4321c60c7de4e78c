/- Part of the proof of a law: contracts of the functions that the law reaches, or plain laws of them, out of the abstract layer (the texts YtphmckfokdkecaaGreatIso..). No condition. -/
import Derived.Test.YtphmckfokdkecaaGreatW
import Derived.Test.YtphmckfokdkecaaGreatIsoF
import Derived.Test.YtphmckfokdkecaaGreatLman
import Derived.Test.YtphmckfokdkecaaGreatShelf
import Derived.Test.YtphmckfokdkecaaGreatIsoY
import Derived.Test.YtphmckfokdkecaaGreatPa
open Nat (reduceEqDiff reduceAdd reduceSub reduceMul reduceLeDiff reduceLT)
namespace Go.Proofs.YtphmckfokdkecaaGreat
open Go Go.Iso Go.Proofs
set_option linter.unusedSimpArgs false
set_option linter.unusedVariables false
set_option maxRecDepth 100000
/-! ### isochrone/isochroneref13.Derive -/
def r13_Derive_body (K : Nat) (self27 : NodeA → Option (NodeA × Bool)) (p0 : NodeA) : Option (NodeA × Bool) := ((iter (S := Int × (List NodeA)) (R := Out (List NodeA) _) K (fun again (i1_0, i1_1) =>
  if (decide (i1_0 < (p0.kids.length : Int))) then
   ((
    (idx p0.kids i1_0).bind fun x8 =>
    ((
     ((
      if (i1_0 == (1 : Int)) then
       if (p0.op == (8 : Int)) then
        some true
       else
        some (p0.op == (9 : Int))
      else
       some false) : Option Bool).bind (fun v12_0 =>
     if v12_0 then
      outM (
       outM (
        some (.go i1_1)))
     else
      some (.go ()))) : Option (Out Unit _)).bind (Out.fin fun _ =>
    ((
     ((
      if (p0.op == (12 : Int)) then
       some true
      else
       some (p0.op == (10 : Int))) : Option Bool).bind (fun v19_0 =>
     if v19_0 then
      outM (
       outM (
        outM (
         some ((NodeA.mk (0 : Int) (⟨#[]⟩ : ByteArray) (RatA.mk false [] []) []), false))))
     else
      some (.go ()))) : Option (Out Unit _)).bind (Out.fin fun _ =>
    (self27 (x8)).bind fun r23 =>
    if (!r23.2) then
     outM (
      outM (
       some ((NodeA.mk (0 : Int) (⟨#[]⟩ : ByteArray) (RatA.mk false [] []) []), false)))
    else
     (appO 104 i1_1 [r23.1]).bind fun l26 =>
     some (.go l26)))) : Option (Out (List NodeA) _)).bind (Out.fin fun v6_0 =>
   again (IntKind.wrap .i64 (i1_0 + (1 : Int)), v6_0))
  else
   some (.go i1_1)) ((0 : Int), [])) : Option (Out (List NodeA) _)).bind (Out.fin fun e2_0 =>
 ((
  ((
   if (p0.op == (1 : Int)) then
    some (p0.op == (1 : Int))
   else
    some (p0.op == (10 : Int))) : Option Bool).bind (fun v30_0 =>
  if v30_0 then
   (r08_Num K (0 : Int)).bind fun r34 =>
   outM (
    some (r34, true))
  else
   if (p0.op == (2 : Int)) then
    outM (
     some ((NodeA.mk (3 : Int) p0.name (RatA.mk false [] []) []), true))
   else
    if (p0.op == (4 : Int)) then
     (idx e2_0 (0 : Int)).bind fun x38 =>
     (r08_One K (4 : Int) x38).bind fun r40 =>
     outM (
      some (r40, true))
    else
     ((
      if (p0.op == (5 : Int)) then
       some (p0.op == (5 : Int))
      else
       some (p0.op == (6 : Int))) : Option Bool).bind (fun v42_0 =>
     if v42_0 then
      (idx e2_0 (0 : Int)).bind fun x46 =>
      (idx e2_0 (1 : Int)).bind fun x48 =>
      (r08_Two K p0.op x46 x48).bind fun r50 =>
      outM (
       some (r50, true))
     else
      if (p0.op == (7 : Int)) then
       (idx e2_0 (0 : Int)).bind fun x53 =>
       (idx p0.kids (1 : Int)).bind fun x55 =>
       (r08_Two K (7 : Int) x53 x55).bind fun r57 =>
       (idx p0.kids (0 : Int)).bind fun x59 =>
       (idx e2_0 (1 : Int)).bind fun x61 =>
       (r08_Two K (7 : Int) x59 x61).bind fun r63 =>
       (r08_Two K (5 : Int) r57 r63).bind fun r65 =>
       outM (
        some (r65, true))
      else
       if (p0.op == (8 : Int)) then
        (idx e2_0 (0 : Int)).bind fun x68 =>
        (idx p0.kids (1 : Int)).bind fun x70 =>
        (r08_Two K (8 : Int) x68 x70).bind fun r72 =>
        outM (
         some (r72, true))
       else
        if (p0.op == (9 : Int)) then
         (r08_Exponent K p0).bind fun r75 =>
         if (r75 == (0 : Int)) then
          (r08_Num K (0 : Int)).bind fun r78 =>
          outM (
           some (r78, true))
         else
          if (r75 == (1 : Int)) then
           (idx e2_0 (0 : Int)).bind fun x81 =>
           outM (
            some (x81, true))
          else
           (r08_Num K r75).bind fun r83 =>
           (idx p0.kids (0 : Int)).bind fun x85 =>
           (r08_Num K (IntKind.wrap .i64 (r75 - (1 : Int)))).bind fun r87 =>
           (r08_Two K (9 : Int) x85 r87).bind fun r89 =>
           (r08_Two K (7 : Int) r83 r89).bind fun r91 =>
           (idx e2_0 (0 : Int)).bind fun x93 =>
           (r08_Two K (7 : Int) r91 x93).bind fun r95 =>
           outM (
            some (r95, true))
        else
         if (p0.op == (11 : Int)) then
          (r08_One K (12 : Int) p0).bind fun r98 =>
          outM (
           some (r98, true))
         else
          ((
           if (p0.op == (20 : Int)) then
            some (p0.op == (20 : Int))
           else
            some (p0.op == (21 : Int))) : Option Bool).bind (fun v100_0 =>
          if v100_0 then
           outM (
            some ((NodeA.mk (20 : Int) (⟨#[]⟩ : ByteArray) (RatA.mk false [] []) []), true))
          else
           ((
            if (p0.op == (22 : Int)) then
             some (p0.op == (22 : Int))
            else
             some (p0.op == (23 : Int))) : Option Bool).bind (fun v104_0 =>
           if v104_0 then
            (idx e2_0 (0 : Int)).bind fun x108 =>
            (idx e2_0 (1 : Int)).bind fun x110 =>
            (r08_Two K (22 : Int) x108 x110).bind fun r112 =>
            outM (
             some (r112, true))
           else
            ((
             if (p0.op == (24 : Int)) then
              some (p0.op == (24 : Int))
             else
              some (p0.op == (25 : Int))) : Option Bool).bind (fun v114_0 =>
            if v114_0 then
             (idx e2_0 (0 : Int)).bind fun x118 =>
             (idx e2_0 (1 : Int)).bind fun x120 =>
             (r08_Two K (25 : Int) x118 x120).bind fun r122 =>
             outM (
              some (r122, true))
            else
             ((
              if (p0.op == (26 : Int)) then
               some (p0.op == (26 : Int))
              else
               some (p0.op == (27 : Int))) : Option Bool).bind (fun v124_0 =>
             if v124_0 then
              (idx e2_0 (0 : Int)).bind fun x128 =>
              (idx e2_0 (1 : Int)).bind fun x130 =>
              (r08_Two K (27 : Int) x128 x130).bind fun r132 =>
              outM (
               some (r132, true))
             else
              ((
               if (p0.op == (29 : Int)) then
                some (p0.op == (29 : Int))
               else
                some (p0.op == (30 : Int))) : Option Bool).bind (fun v134_0 =>
              if v134_0 then
               (idx e2_0 (0 : Int)).bind fun x138 =>
               (idx e2_0 (1 : Int)).bind fun x140 =>
               (r08_Two K (29 : Int) x138 x140).bind fun r142 =>
               outM (
                some (r142, true))
              else
               if (p0.op == (38 : Int)) then
                (r08_One K (39 : Int) p0).bind fun r145 =>
                outM (
                 some (r145, true))
               else
                some (.go ()))))))))) : Option (Out Unit _)).bind (Out.fin fun _ =>
 some ((NodeA.mk (0 : Int) (⟨#[]⟩ : ByteArray) (RatA.mk false [] []) []), false)))
set_option maxHeartbeats 4000000 in
theorem r13_Derive_step (K : Nat) (self27 : NodeA → Option (NodeA × Bool)) (hself27 : ∀ (q : NodeA) (r : NodeA × Bool), self27 q = some r → Cn Tryz.prog 27 [aggV q.enc] (.tup [aggV r.1.enc, .d (.val (.bool r.2))])) (p0 : NodeA) (r : NodeA × Bool) (h : r13_Derive_body K self27 p0 = some r) : Cn Tryz.prog 27 [aggV p0.enc] (.tup [aggV r.1.enc, .d (.val (.bool r.2))]) := by
 refine Cn.oz Tryz.func27 Tryz.call27 Tryz.ntmps27 Tryz.results27 fun hfit => ?_
 unfold r13_Derive_body at h
 refine AW.kr [] [0] ?_
 refine AW.kr [0, 1] [1, 2] ?_
 refine AW.ks [0, 1] [1, 2, 4] ?_
 refine AW.one ?_
 refine AW.ro ?_
 refine AW.ks [0, 1] [1, 2, 4, 11, 12, 13] ?_
 refine AW.lp h (fun e2_0 => [(1, .ptr 0 6 0 0), (2, .ptr 1 6 0 0), (4, accV 2 6 ((e2_0.map NodeA.enc).map (·.map .d)))]) (fun e2_0 => [vE p0.enc, some ⟨6, [[vI (0 : Int), vS (⟨#[]⟩ : ByteArray), vB false, .d (.val (.slice none 0 0)), .d (.val (.slice none 0 0)), .d (.val (.slice none 0 0))]]⟩, accO 6 ((e2_0.map NodeA.enc).map (·.map .d))]) (fun (i1_0, i1_1) => [(1, .ptr 0 6 0 0), (2, .ptr 1 6 0 0), (4, accV 2 6 ((i1_1.map NodeA.enc).map (·.map .d))), (11, vL NodeA.enc p0.kids), (12, vI (p0.kids.length : Int)), (13, vI i1_0)]) (fun (i1_0, i1_1) => [vE p0.enc, some ⟨6, [[vI (0 : Int), vS (⟨#[]⟩ : ByteArray), vB false, .d (.val (.slice none 0 0)), .d (.val (.slice none 0 0)), .d (.val (.slice none 0 0))]]⟩, accO 6 ((i1_1.map NodeA.enc).map (·.map .d))]) [0, 1, 1002] (fun oJ4 hJ4 again ⟨i1_0, i1_1⟩ h => ?_) fun e2_0 h => ?_
 ·try dsimp only at h
  refine AW.ro ?_
  refine AW.ks [0, 1, 2] [1, 2, 4, 11, 12, 13, 14] ?_
  refine AW.one ?_
  refine AW.tt h (fun hb5 h => ?_) fun hb5 h => ?_
  ·refine AW.sk ?_
   refine AW.ks [0, 1, 2] [1, 2, 4, 11, 12, 13] ?_
   refine AW.jo h (fun v6_0 => [(1, .ptr 0 6 0 0), (2, .ptr 1 6 0 0), (4, accV 2 6 ((v6_0.map NodeA.enc).map (·.map .d))), (11, vL NodeA.enc p0.kids), (12, vI (p0.kids.length : Int)), (13, vI i1_0)]) (fun v6_0 => [vE p0.enc, some ⟨6, [[vI (0 : Int), vS (⟨#[]⟩ : ByteArray), vB false, .d (.val (.slice none 0 0)), .d (.val (.slice none 0 0)), .d (.val (.slice none 0 0))]]⟩, accO 6 ((v6_0.map NodeA.enc).map (·.map .d))]) (fun oJ7 h hJ7 => ?_) fun v6_0 h => ?_
   ·refine AW.block ?_
    refine AW.ro ?_
    refine bx h fun x8 h0 h1 h => ?_
    refine AW.ks [0, 1, 2, 6] [1, 2, 4, 5, 6, 11, 12, 13] ?_
    refine AW.jo h (fun _ => [(1, .ptr 0 6 0 0), (2, .ptr 1 6 0 0), (4, accV 2 6 ((i1_1.map NodeA.enc).map (·.map .d))), (6, .ptr 3 6 0 0), (11, vL NodeA.enc p0.kids), (12, vI (p0.kids.length : Int)), (13, vI i1_0)]) (fun _ => [vE p0.enc, some ⟨6, [[vI (0 : Int), vS (⟨#[]⟩ : ByteArray), vB false, .d (.val (.slice none 0 0)), .d (.val (.slice none 0 0)), .d (.val (.slice none 0 0))]]⟩, accO 6 ((i1_1.map NodeA.enc).map (·.map .d)), vE x8.enc]) (fun oJ11 h hJ11 => ?_) fun ⟨⟩ h => ?_
    ·refine AW.jn h (fun v12_0 => [(1, .ptr 0 6 0 0), (2, .ptr 1 6 0 0), (4, accV 2 6 ((i1_1.map NodeA.enc).map (·.map .d))), (6, .ptr 3 6 0 0), (11, vL NodeA.enc p0.kids), (12, vI (p0.kids.length : Int)), (13, vI i1_0), (29, vB v12_0)]) (fun v12_0 => [vE p0.enc, some ⟨6, [[vI (0 : Int), vS (⟨#[]⟩ : ByteArray), vB false, .d (.val (.slice none 0 0)), .d (.val (.slice none 0 0)), .d (.val (.slice none 0 0))]]⟩, accO 6 ((i1_1.map NodeA.enc).map (·.map .d)), vE x8.enc]) (fun oJ13 h => ?_) fun v12_0 h => ?_
     ·refine AW.rp ?_
      refine sK h (fun hb14 h => ?_) fun hb14 h => ?_
      ·refine sK h (fun hb15 h => ?_) fun hb15 h => ?_
       ·exact ja [0, 1, 2, 3] h
       exact ja [0, 1, 2, 3] h
      exact ja [0, 1, 2, 3] h
     refine AW.tk h (fun hb16 h => ?_) fun hb16 h => ?_
     ·refine AW.ex ?_
      have h := up h hJ11
      have h := up h hJ7
      exact jo [0, 1, 2] h
     exact jo [0, 1, 2, 3] h
    refine AW.jo h (fun _ => [(1, .ptr 0 6 0 0), (2, .ptr 1 6 0 0), (4, accV 2 6 ((i1_1.map NodeA.enc).map (·.map .d))), (6, .ptr 3 6 0 0), (11, vL NodeA.enc p0.kids), (12, vI (p0.kids.length : Int)), (13, vI i1_0)]) (fun _ => [vE p0.enc, some ⟨6, [[vI (0 : Int), vS (⟨#[]⟩ : ByteArray), vB false, .d (.val (.slice none 0 0)), .d (.val (.slice none 0 0)), .d (.val (.slice none 0 0))]]⟩, accO 6 ((i1_1.map NodeA.enc).map (·.map .d)), vE x8.enc]) (fun oJ18 h hJ18 => ?_) fun ⟨⟩ h => ?_
    ·refine AW.jn h (fun v19_0 => [(1, .ptr 0 6 0 0), (2, .ptr 1 6 0 0), (4, accV 2 6 ((i1_1.map NodeA.enc).map (·.map .d))), (6, .ptr 3 6 0 0), (11, vL NodeA.enc p0.kids), (12, vI (p0.kids.length : Int)), (13, vI i1_0), (37, vB v19_0)]) (fun v19_0 => [vE p0.enc, some ⟨6, [[vI (0 : Int), vS (⟨#[]⟩ : ByteArray), vB false, .d (.val (.slice none 0 0)), .d (.val (.slice none 0 0)), .d (.val (.slice none 0 0))]]⟩, accO 6 ((i1_1.map NodeA.enc).map (·.map .d)), vE x8.enc]) (fun oJ20 h => ?_) fun v19_0 h => ?_
     ·refine AW.rp ?_
      refine sK h (fun hb21 h => ?_) fun hb21 h => ?_
      ·exact ja [0, 1, 2, 3] h
      exact ja [0, 1, 2, 3] h
     refine AW.tk h (fun hb22 h => ?_) fun hb22 h => ?_
     ·refine AW.ro ?_
      refine AW.ret ?_
      have h := up h hJ18
      have h := up h hJ7
      have h := up h hJ4
      cases h; refine nz ?_; exact .tupL ⟨.aggL ⟨.same _, .same _, .same _, .nil, .nil, .nil, trivial⟩, .same _, trivial⟩
     exact jo [0, 1, 2, 3] h
    refine AW.ro ?_
    refine cm h (hself27 _ _) fun r23 hx24 h => ?_
    refine AW.ks [0, 1, 2, 9] [1, 2, 4, 7, 8, 11, 12, 13] ?_
    refine AW.one ?_
    refine AW.ro ?_
    refine AW.ks [0, 1, 2, 3] [1, 2, 4, 7, 11, 12, 13, 45] ?_
    refine AW.tk h (fun hb25 h => ?_) fun hb25 h => ?_
    ·refine AW.ro ?_
     refine AW.ret ?_
     have h := up h hJ7
     have h := up h hJ4
     cases h; refine nz ?_; exact .tupL ⟨.aggL ⟨.same _, .same _, .same _, .nil, .nil, .nil, trivial⟩, .same _, trivial⟩
    refine AW.ks [0, 1, 2, 3] [1, 2, 4, 7, 11, 12, 13] ?_
    refine AW.rp ?_
    refine ag (f := NodeA.enc) h fun l26 hx27 h => ?_
    exact jo [0, 1, 7] h
   refine AW.rp ?_
   exact na [0, 1, 2] h
  refine AW.ex ?_
  exact jo [0, 1, 2] h
 refine AW.ks [0, 1, 2] [1, 2, 4] ?_
 refine AW.jo h (fun _ => [(2, .ptr 0 6 0 0)]) (fun _ => [some ⟨6, [[vI (0 : Int), vS (⟨#[]⟩ : ByteArray), vB false, .d (.val (.slice none 0 0)), .d (.val (.slice none 0 0)), .d (.val (.slice none 0 0))]]⟩]) (fun oJ29 h hJ29 => ?_) fun ⟨⟩ h => ?_
 ·refine AW.ro ?_
  refine AW.ks [0, 1, 2] [1, 2, 4, 53] ?_
  refine AW.block ?_
  refine AW.jn h (fun v30_0 => [(1, .ptr 0 6 0 0), (2, .ptr 1 6 0 0), (4, accV 2 6 ((e2_0.map NodeA.enc).map (·.map .d))), (53, vI p0.op), (54, vB v30_0)]) (fun v30_0 => [vE p0.enc, some ⟨6, [[vI (0 : Int), vS (⟨#[]⟩ : ByteArray), vB false, .d (.val (.slice none 0 0)), .d (.val (.slice none 0 0)), .d (.val (.slice none 0 0))]]⟩, accO 6 ((e2_0.map NodeA.enc).map (·.map .d))]) (fun oJ31 h => ?_) fun v30_0 h => ?_
  ·refine AW.ro ?_
   refine AW.ks [0, 1, 2] [1, 2, 4, 53, 54] ?_
   refine AW.tt h (fun hb32 h => ?_) fun hb32 h => ?_
   ·refine AW.sk ?_
    exact ja [0, 1, 2] h
   refine AW.rp ?_
   exact ja [0, 1, 2] h
  refine AW.tt h (fun hb33 h => ?_) fun hb33 h => ?_
  ·refine AW.ro ?_
   refine cm h r08_Num_ok fun r34 hx35 h => ?_
   refine AW.ret ?_
   have h := up h hJ29
   cases h; refine nz ?_; exact .same _
  refine AW.ro ?_
  refine AW.ks [0, 1, 2] [1, 2, 4, 53, 58] ?_
  refine AW.tt h (fun hb36 h => ?_) fun hb36 h => ?_
  ·refine AW.ro ?_
   refine AW.ret ?_
   have h := up h hJ29
   cases h; refine nz ?_; exact .tupL ⟨.aggL ⟨.same _, .same _, .same _, .nil, .nil, .nil, trivial⟩, .same _, trivial⟩
  refine AW.ro ?_
  refine AW.ks [0, 1, 2] [1, 2, 4, 53, 63] ?_
  refine AW.tt h (fun hb37 h => ?_) fun hb37 h => ?_
  ·refine AW.ro ?_
   refine bi h fun x38 h0 h1 h2 h3 h4 h => ?_
   refine cm h r08_One_ok fun r40 hx41 h => ?_
   refine AW.ret ?_
   have h := up h hJ29
   cases h; refine nz ?_; exact .same _
  refine AW.jn h (fun v42_0 => [(1, .ptr 0 6 0 0), (2, .ptr 1 6 0 0), (4, accV 2 6 ((e2_0.map NodeA.enc).map (·.map .d))), (53, vI p0.op), (69, vB v42_0)]) (fun v42_0 => [vE p0.enc, some ⟨6, [[vI (0 : Int), vS (⟨#[]⟩ : ByteArray), vB false, .d (.val (.slice none 0 0)), .d (.val (.slice none 0 0)), .d (.val (.slice none 0 0))]]⟩, accO 6 ((e2_0.map NodeA.enc).map (·.map .d))]) (fun oJ43 h => ?_) fun v42_0 h => ?_
  ·refine AW.ro ?_
   refine AW.ks [0, 1, 2] [1, 2, 4, 53, 69] ?_
   refine AW.tt h (fun hb44 h => ?_) fun hb44 h => ?_
   ·refine AW.sk ?_
    exact ja [0, 1, 2] h
   refine AW.rp ?_
   exact ja [0, 1, 2] h
  refine AW.tt h (fun hb45 h => ?_) fun hb45 h => ?_
  ·refine AW.ro ?_
   refine bi h fun x46 h0 h1 h2 h3 h4 h => ?_
   refine bi h fun x48 h0 h1 h2 h3 h4 h => ?_
   refine pm h r08_Two_ok fun r50 hx51 h => ?_
   refine AW.ret ?_
   have h := up h hJ29
   cases h; refine nz ?_; exact .same _
  refine AW.ro ?_
  refine AW.ks [0, 1, 2] [1, 2, 4, 53, 81] ?_
  refine AW.tt h (fun hb52 h => ?_) fun hb52 h => ?_
  ·refine AW.ro ?_
   refine bi h fun x53 h0 h1 h2 h3 h4 h => ?_
   refine bx h fun x55 h0 h1 h => ?_
   refine pm h r08_Two_ok fun r57 hx58 h => ?_
   refine bx h fun x59 h0 h1 h => ?_
   refine bi h fun x61 h0 h1 h2 h3 h4 h => ?_
   refine pm h r08_Two_ok fun r63 hx64 h => ?_
   refine pm h r08_Two_ok fun r65 hx66 h => ?_
   refine AW.ret ?_
   have h := up h hJ29
   cases h; refine nz ?_; exact .same _
  refine AW.ro ?_
  refine AW.ks [0, 1, 2] [1, 2, 4, 53, 100] ?_
  refine AW.tt h (fun hb67 h => ?_) fun hb67 h => ?_
  ·refine AW.ro ?_
   refine bi h fun x68 h0 h1 h2 h3 h4 h => ?_
   refine bx h fun x70 h0 h1 h => ?_
   refine pm h r08_Two_ok fun r72 hx73 h => ?_
   refine AW.ret ?_
   have h := up h hJ29
   cases h; refine nz ?_; exact .same _
  refine AW.ro ?_
  refine AW.ks [0, 1, 2] [1, 2, 4, 53, 110] ?_
  refine AW.tt h (fun hb74 h => ?_) fun hb74 h => ?_
  ·refine AW.ro ?_
   refine cm h r08_Exponent_ok fun r75 hx76 h => ?_
   refine AW.ks [0, 1, 2] [1, 2, 4, 9] ?_
   refine AW.one ?_
   refine AW.ro ?_
   refine AW.ks [0, 1, 2] [1, 2, 4, 9, 115] ?_
   refine AW.tk h (fun hb77 h => ?_) fun hb77 h => ?_
   ·refine AW.ro ?_
    refine cm h r08_Num_ok fun r78 hx79 h => ?_
    refine AW.ret ?_
    have h := up h hJ29
    cases h; refine nz ?_; exact .same _
   refine AW.ks [0, 1, 2] [1, 2, 4, 9] ?_
   refine AW.one ?_
   refine AW.ro ?_
   refine AW.ks [0, 1, 2] [1, 2, 4, 9, 118] ?_
   refine AW.tk h (fun hb80 h => ?_) fun hb80 h => ?_
   ·refine AW.ro ?_
    refine bi h fun x81 h0 h1 h2 h3 h4 h => ?_
    refine AW.ret ?_
    have h := up h hJ29
    cases h; refine nz ?_; exact .same _
   refine AW.kr [0, 1, 2] [1, 2, 4, 9] ?_
   refine pm h r08_Num_ok fun r83 hx84 h => ?_
   refine bx h fun x85 h0 h1 h => ?_
   refine pm h r08_Num_ok fun r87 hx88 h => ?_
   refine pm h r08_Two_ok fun r89 hx90 h => ?_
   refine pm h r08_Two_ok fun r91 hx92 h => ?_
   refine bi h fun x93 h0 h1 h2 h3 h4 h => ?_
   refine pm h r08_Two_ok fun r95 hx96 h => ?_
   refine AW.ret ?_
   have h := up h hJ29
   cases h; refine nz ?_; exact .same _
  refine AW.ro ?_
  refine AW.ks [0, 1, 2] [1, 2, 4, 53, 137] ?_
  refine AW.tt h (fun hb97 h => ?_) fun hb97 h => ?_
  ·refine AW.ro ?_
   refine cm h r08_One_ok fun r98 hx99 h => ?_
   refine AW.ret ?_
   have h := up h hJ29
   cases h; refine nz ?_; exact .same _
  refine AW.jn h (fun v100_0 => [(1, .ptr 0 6 0 0), (2, .ptr 1 6 0 0), (4, accV 2 6 ((e2_0.map NodeA.enc).map (·.map .d))), (53, vI p0.op), (141, vB v100_0)]) (fun v100_0 => [vE p0.enc, some ⟨6, [[vI (0 : Int), vS (⟨#[]⟩ : ByteArray), vB false, .d (.val (.slice none 0 0)), .d (.val (.slice none 0 0)), .d (.val (.slice none 0 0))]]⟩, accO 6 ((e2_0.map NodeA.enc).map (·.map .d))]) (fun oJ101 h => ?_) fun v100_0 h => ?_
  ·refine AW.ro ?_
   refine AW.ks [0, 1, 2] [1, 2, 4, 53, 141] ?_
   refine AW.tt h (fun hb102 h => ?_) fun hb102 h => ?_
   ·refine AW.sk ?_
    exact ja [0, 1, 2] h
   refine AW.rp ?_
   exact ja [0, 1, 2] h
  refine AW.tt h (fun hb103 h => ?_) fun hb103 h => ?_
  ·refine AW.ro ?_
   refine AW.ret ?_
   have h := up h hJ29
   cases h; refine nz ?_; exact .tupL ⟨.aggL ⟨.same _, .same _, .same _, .nil, .nil, .nil, trivial⟩, .same _, trivial⟩
  refine AW.jn h (fun v104_0 => [(1, .ptr 0 6 0 0), (2, .ptr 1 6 0 0), (4, accV 2 6 ((e2_0.map NodeA.enc).map (·.map .d))), (53, vI p0.op), (145, vB v104_0)]) (fun v104_0 => [vE p0.enc, some ⟨6, [[vI (0 : Int), vS (⟨#[]⟩ : ByteArray), vB false, .d (.val (.slice none 0 0)), .d (.val (.slice none 0 0)), .d (.val (.slice none 0 0))]]⟩, accO 6 ((e2_0.map NodeA.enc).map (·.map .d))]) (fun oJ105 h => ?_) fun v104_0 h => ?_
  ·refine AW.ro ?_
   refine AW.ks [0, 1, 2] [1, 2, 4, 53, 145] ?_
   refine AW.tt h (fun hb106 h => ?_) fun hb106 h => ?_
   ·refine AW.sk ?_
    exact ja [0, 1, 2] h
   refine AW.rp ?_
   exact ja [0, 1, 2] h
  refine AW.tt h (fun hb107 h => ?_) fun hb107 h => ?_
  ·refine AW.ro ?_
   refine bi h fun x108 h0 h1 h2 h3 h4 h => ?_
   refine bi h fun x110 h0 h1 h2 h3 h4 h => ?_
   refine pm h r08_Two_ok fun r112 hx113 h => ?_
   refine AW.ret ?_
   have h := up h hJ29
   cases h; refine nz ?_; exact .same _
  refine AW.jn h (fun v114_0 => [(1, .ptr 0 6 0 0), (2, .ptr 1 6 0 0), (4, accV 2 6 ((e2_0.map NodeA.enc).map (·.map .d))), (53, vI p0.op), (155, vB v114_0)]) (fun v114_0 => [vE p0.enc, some ⟨6, [[vI (0 : Int), vS (⟨#[]⟩ : ByteArray), vB false, .d (.val (.slice none 0 0)), .d (.val (.slice none 0 0)), .d (.val (.slice none 0 0))]]⟩, accO 6 ((e2_0.map NodeA.enc).map (·.map .d))]) (fun oJ115 h => ?_) fun v114_0 h => ?_
  ·refine AW.ro ?_
   refine AW.ks [0, 1, 2] [1, 2, 4, 53, 155] ?_
   refine AW.tt h (fun hb116 h => ?_) fun hb116 h => ?_
   ·refine AW.sk ?_
    exact ja [0, 1, 2] h
   refine AW.rp ?_
   exact ja [0, 1, 2] h
  refine AW.tt h (fun hb117 h => ?_) fun hb117 h => ?_
  ·refine AW.ro ?_
   refine bi h fun x118 h0 h1 h2 h3 h4 h => ?_
   refine bi h fun x120 h0 h1 h2 h3 h4 h => ?_
   refine pm h r08_Two_ok fun r122 hx123 h => ?_
   refine AW.ret ?_
   have h := up h hJ29
   cases h; refine nz ?_; exact .same _
  refine AW.jn h (fun v124_0 => [(1, .ptr 0 6 0 0), (2, .ptr 1 6 0 0), (4, accV 2 6 ((e2_0.map NodeA.enc).map (·.map .d))), (53, vI p0.op), (165, vB v124_0)]) (fun v124_0 => [vE p0.enc, some ⟨6, [[vI (0 : Int), vS (⟨#[]⟩ : ByteArray), vB false, .d (.val (.slice none 0 0)), .d (.val (.slice none 0 0)), .d (.val (.slice none 0 0))]]⟩, accO 6 ((e2_0.map NodeA.enc).map (·.map .d))]) (fun oJ125 h => ?_) fun v124_0 h => ?_
  ·refine AW.ro ?_
   refine AW.ks [0, 1, 2] [1, 2, 4, 53, 165] ?_
   refine AW.tt h (fun hb126 h => ?_) fun hb126 h => ?_
   ·refine AW.sk ?_
    exact ja [0, 1, 2] h
   refine AW.rp ?_
   exact ja [0, 1, 2] h
  refine AW.tt h (fun hb127 h => ?_) fun hb127 h => ?_
  ·refine AW.ro ?_
   refine bi h fun x128 h0 h1 h2 h3 h4 h => ?_
   refine bi h fun x130 h0 h1 h2 h3 h4 h => ?_
   refine pm h r08_Two_ok fun r132 hx133 h => ?_
   refine AW.ret ?_
   have h := up h hJ29
   cases h; refine nz ?_; exact .same _
  refine AW.jn h (fun v134_0 => [(1, .ptr 0 6 0 0), (2, .ptr 1 6 0 0), (4, accV 2 6 ((e2_0.map NodeA.enc).map (·.map .d))), (53, vI p0.op), (175, vB v134_0)]) (fun v134_0 => [vE p0.enc, some ⟨6, [[vI (0 : Int), vS (⟨#[]⟩ : ByteArray), vB false, .d (.val (.slice none 0 0)), .d (.val (.slice none 0 0)), .d (.val (.slice none 0 0))]]⟩, accO 6 ((e2_0.map NodeA.enc).map (·.map .d))]) (fun oJ135 h => ?_) fun v134_0 h => ?_
  ·refine AW.ro ?_
   refine AW.ks [0, 1, 2] [1, 2, 4, 53, 175] ?_
   refine AW.tt h (fun hb136 h => ?_) fun hb136 h => ?_
   ·refine AW.sk ?_
    exact ja [0, 1, 2] h
   refine AW.rp ?_
   exact ja [0, 1, 2] h
  refine AW.tt h (fun hb137 h => ?_) fun hb137 h => ?_
  ·refine AW.ro ?_
   refine bi h fun x138 h0 h1 h2 h3 h4 h => ?_
   refine bi h fun x140 h0 h1 h2 h3 h4 h => ?_
   refine pm h r08_Two_ok fun r142 hx143 h => ?_
   refine AW.ret ?_
   have h := up h hJ29
   cases h; refine nz ?_; exact .same _
  refine AW.ro ?_
  refine AW.ks [0, 1] [1, 2, 185] ?_
  refine AW.tk h (fun hb144 h => ?_) fun hb144 h => ?_
  ·refine AW.ro ?_
   refine cm h r08_One_ok fun r145 hx146 h => ?_
   refine AW.ret ?_
   have h := up h hJ29
   cases h; refine nz ?_; exact .same _
  exact jo [1] h
 refine AW.ro ?_
 refine AW.ret ?_
 cases h; refine nz ?_; exact .tupL ⟨.aggL ⟨.same _, .same _, .same _, .nil, .nil, .nil, trivial⟩, .same _, trivial⟩
def r13_Derive (K : Nat) (p0 : NodeA) : Option (NodeA × Bool) := iter K (fun self q => r13_Derive_body K self q) p0
theorem key_r13_Derive {K : Nat} (k : Nat) : (∀ (q : NodeA) (r : NodeA × Bool), iter k (fun self q => r13_Derive_body K self q) q = some r → Cn Tryz.prog 27 [aggV q.enc] (.tup [aggV r.1.enc, .d (.val (.bool r.2))])) := by
 induction k with
 | zero => exact fun q r h => by cases h
 | succ k ih => exact fun q r h => r13_Derive_step K _ ih q r h
theorem r13_Derive_ok {K : Nat} {p0 : NodeA} {r : NodeA × Bool} (h : r13_Derive K p0 = some r) : Cn Tryz.prog 27 [aggV p0.enc] (.tup [aggV r.1.enc, .d (.val (.bool r.2))]) := (key_r13_Derive K) p0 r h
/-! ### isochrone/isochroneref13.checked -/
def r13_checked (K : Nat) (p0 : NodeA) (p1 : Int) : Option (NodeA × Int) := (r08_Check K p0 p1).bind fun r1 =>
 if (r1 != (0 : Int)) then
  some ((NodeA.mk (0 : Int) (⟨#[]⟩ : ByteArray) (RatA.mk false [] []) []), r1)
 else
  some (p0, (0 : Int))
set_option maxHeartbeats 4000000 in
theorem r13_checked_ok {K : Nat} {p0 : NodeA} {p1 : Int} {r : NodeA × Int} (h : r13_checked K p0 p1 = some r) : Cn Tryz.prog 28 [aggV p0.enc, .d (.val (.int .i64 p1))] (.tup [aggV r.1.enc, .d (.val (.int .i64 r.2))]) := by
 refine Cn.oz Tryz.func28 Tryz.call28 Tryz.ntmps28 Tryz.results28 fun hfit => ?_
 unfold r13_checked at h
 refine AW.kr [] [0, 1] ?_
 refine AW.ks [0, 1] [1, 2, 4] ?_
 refine AW.one ?_
 refine AW.ro ?_
 refine cm h r08_Check_ok fun r1 hx2 h => ?_
 refine AW.kr [0, 1] [2, 4, 6] ?_
 refine AW.ks [0, 1] [2, 4, 6, 11] ?_
 refine AW.tk h (fun hb3 h => ?_) fun hb3 h => ?_
 ·refine AW.ro ?_
  refine AW.ret ?_
  cases h; refine nz ?_; exact .tupL ⟨.aggL ⟨.same _, .same _, .same _, .nil, .nil, .nil, trivial⟩, .same _, trivial⟩
 refine AW.kr [0, 1] [2, 4] ?_
 refine AW.ret ?_
 cases h; refine nz ?_; exact .same _
/-! ### isochrone/isochroneref13.Of -/
/-! ### isochrone/isochronelaw13.DiffOf -/
/-! ### isochrone/isochroneref08.Contains -/
def r08_Contains_body (K : Nat) (self38 : (NodeA × Int × Int) → Option Bool) (p0 : NodeA) (p1 : Int) (p2 : Int) : Option Bool := ((
  ((
   if (p0.op == p1) then
    some true
   else
    some (p0.op == p2)) : Option Bool).bind (fun v3_0 =>
  if v3_0 then
   outM (
    some true)
  else
   some (.go ()))) : Option (Out Unit _)).bind (Out.fin fun _ =>
 ((iter (S := Int) (R := Out Unit _) K (fun again i7_0 =>
  if (decide (i7_0 < (p0.kids.length : Int))) then
   (idx p0.kids i7_0).bind fun x12 =>
   (self38 (x12, p1, p2)).bind fun r14 =>
   if r14 then
    outM (
     some true)
   else
    again (IntKind.wrap .i64 (i7_0 + (1 : Int)))
  else
   some (.go ())) (0 : Int)) : Option (Out Unit _)).bind (Out.fin fun _ =>
 some false))
set_option maxHeartbeats 4000000 in
theorem r08_Contains_step (K : Nat) (self38 : (NodeA × Int × Int) → Option Bool) (hself38 : ∀ (q : NodeA × Int × Int) (r : Bool), self38 q = some r → Cn Tryz.prog 38 [aggV q.1.enc, .d (.val (.int .i64 q.2.1)), .d (.val (.int .i64 q.2.2))] (.d (.val (.bool r)))) (p0 : NodeA) (p1 : Int) (p2 : Int) (r : Bool) (h : r08_Contains_body K self38 p0 p1 p2 = some r) : Cn Tryz.prog 38 [aggV p0.enc, .d (.val (.int .i64 p1)), .d (.val (.int .i64 p2))] (.d (.val (.bool r))) := by
 refine Cn.oz Tryz.func38 Tryz.call38 Tryz.ntmps38 Tryz.results38 fun hfit => ?_
 unfold r08_Contains_body at h
 refine AW.kr [] [0, 1, 2] ?_
 refine AW.ks [0] [1, 2, 3] ?_
 refine AW.jo h (fun _ => [(1, vI p1), (2, vI p2), (3, .ptr 0 6 0 0)]) (fun _ => [vE p0.enc]) (fun oJ2 h hJ2 => ?_) fun ⟨⟩ h => ?_
 ·refine AW.jn h (fun v3_0 => [(1, vI p1), (2, vI p2), (3, .ptr 0 6 0 0), (18, vB v3_0)]) (fun v3_0 => [vE p0.enc]) (fun oJ4 h => ?_) fun v3_0 h => ?_
  ·refine AW.rp ?_
   refine sK h (fun hb5 h => ?_) fun hb5 h => ?_
   ·exact ja [0] h
   exact ja [0] h
  refine AW.tk h (fun hb6 h => ?_) fun hb6 h => ?_
  ·refine AW.ro ?_
   refine AW.ret ?_
   have h := up h hJ2
   cases h; refine nz ?_; exact .same _
  exact jo [0] h
 refine AW.one ?_
 refine AW.ro ?_
 refine AW.ks [] [1, 2, 20, 21, 22] ?_
 refine AW.lp h (fun _ => []) (fun _ => []) (fun i7_0 => [(1, vI p1), (2, vI p2), (20, vL NodeA.enc p0.kids), (21, vI (p0.kids.length : Int)), (22, vI i7_0)]) (fun i7_0 => []) [] (fun oJ10 hJ10 again i7_0 h => ?_) fun ⟨⟩ h => ?_
 ·refine AW.ro ?_
  refine AW.ks [] [1, 2, 20, 21, 22, 23] ?_
  refine AW.one ?_
  refine AW.tt h (fun hb11 h => ?_) fun hb11 h => ?_
  ·refine AW.sk ?_
   refine AW.ks [] [1, 2, 20, 21, 22] ?_
   refine AW.one ?_
   refine AW.block ?_
   refine AW.ro ?_
   refine bx h fun x12 h0 h1 h => ?_
   refine AW.kr [2] [1, 2, 8, 20, 21, 22] ?_
   refine cm h (hself38 _ _) fun r14 hx15 h => ?_
   refine AW.ks [] [1, 2, 20, 21, 22, 29] ?_
   refine AW.tk h (fun hb16 h => ?_) fun hb16 h => ?_
   ·refine AW.ro ?_
    refine AW.ret ?_
    have h := up h hJ10
    cases h; refine nz ?_; exact .same _
   refine AW.ks [] [1, 2, 20, 21, 22] ?_
   refine AW.rp ?_
   exact na [] h
  refine AW.ex ?_
  exact jo [] h
 refine AW.kr [] [] ?_
 refine AW.ret ?_
 cases h; refine nz ?_; exact .same _
def r08_Contains (K : Nat) (p0 : NodeA) (p1 : Int) (p2 : Int) : Option Bool := iter K (fun self q => r08_Contains_body K self q.1 q.2.1 q.2.2) (p0, p1, p2)
theorem key_r08_Contains {K : Nat} (k : Nat) : (∀ (q : NodeA × Int × Int) (r : Bool), iter k (fun self q => r08_Contains_body K self q.1 q.2.1 q.2.2) q = some r → Cn Tryz.prog 38 [aggV q.1.enc, .d (.val (.int .i64 q.2.1)), .d (.val (.int .i64 q.2.2))] (.d (.val (.bool r)))) := by
 induction k with
 | zero => exact fun q r h => by cases h
 | succ k ih => exact fun q r h => r08_Contains_step K _ ih q.1 q.2.1 q.2.2 r h
theorem r08_Contains_ok {K : Nat} {p0 : NodeA} {p1 : Int} {p2 : Int} {r : Bool} (h : r08_Contains K p0 p1 p2 = some r) : Cn Tryz.prog 38 [aggV p0.enc, .d (.val (.int .i64 p1)), .d (.val (.int .i64 p2))] (.d (.val (.bool r))) := (key_r08_Contains K) (p0, p1, p2) r h
/-! ### isochrone/isochroneref13.pushed -/
def r13_pushed_body (K : Nat) (self33 : NodeA → Option NodeA) (p0 : NodeA) : Option NodeA := ((iter (S := Int × (List NodeA)) (R := (List NodeA)) K (fun again (i1_0, i1_1) =>
  if (decide (i1_0 < (p0.kids.length : Int))) then
   (idx p0.kids i1_0).bind fun x6 =>
   (self33 (x6)).bind fun r8 =>
   (appO 104 i1_1 [r8]).bind fun l10 =>
   again (IntKind.wrap .i64 (i1_0 + (1 : Int)), l10)
  else
   some i1_1) ((0 : Int), [])) : Option (List NodeA)).bind (fun e2_0 =>
 ((
  ((
   if (p0.op != (12 : Int)) then
    some (p0.op != (39 : Int))
   else
    some false) : Option Bool).bind (fun v14_0 =>
  if v14_0 then
   outM (
    some (NodeA.mk p0.op p0.name p0.num e2_0))
  else
   some (.go ()))) : Option (Out Unit _)).bind (Out.fin fun _ =>
 (idx e2_0 (0 : Int)).bind fun x18 =>
 (r13_Derive K x18).bind fun r20 =>
 ((
  ((
   if (!r20.2) then
    some true
   else
    (r08_Contains K r20.1 (12 : Int) (39 : Int)).bind fun r27 =>
    some r27) : Option Bool).bind (fun v24_0 =>
  if v24_0 then
   outM (
    some (NodeA.mk p0.op p0.name p0.num e2_0))
  else
   some (.go ()))) : Option (Out Unit _)).bind (Out.fin fun _ =>
 some r20.1)))
set_option maxHeartbeats 4000000 in
theorem r13_pushed_step (K : Nat) (self33 : NodeA → Option NodeA) (hself33 : ∀ (q : NodeA) (r : NodeA), self33 q = some r → Cn Tryz.prog 33 [aggV q.enc] (aggV r.enc)) (p0 : NodeA) (r : NodeA) (h : r13_pushed_body K self33 p0 = some r) : Cn Tryz.prog 33 [aggV p0.enc] (aggV r.enc) := by
 refine Cn.oz Tryz.func33 Tryz.call33 Tryz.ntmps33 Tryz.results33 fun hfit => ?_
 unfold r13_pushed_body at h
 refine AW.kr [] [0] ?_
 refine AW.kr [0, 1] [1, 2] ?_
 refine AW.kr [0, 1, 3] [1, 2, 3] ?_
 refine AW.ks [0, 1, 2] [1, 2, 3] ?_
 refine AW.one ?_
 refine AW.ro ?_
 refine AW.ks [0, 1, 2] [1, 2, 3, 11, 12, 13] ?_
 refine AW.lm h (fun e2_0 => [(1, .ptr 0 6 0 0), (2, .ptr 1 6 0 0), (3, .ptr 2 6 0 0)]) (fun e2_0 => [vE p0.enc, some ⟨6, [[vI (0 : Int), vS (⟨#[]⟩ : ByteArray), vB false, .d (.val (.slice none 0 0)), .d (.val (.slice none 0 0)), .d (.val (.slice none 0 0))]]⟩, some ⟨6, [[vI p0.op, vS p0.name, vB p0.num.neg, vL u32V p0.num.num, vL u32V p0.num.den, accV 3 6 ((e2_0.map NodeA.enc).map (·.map .d))]]⟩, accO 6 ((e2_0.map NodeA.enc).map (·.map .d))]) (fun (i1_0, i1_1) => [(1, .ptr 0 6 0 0), (2, .ptr 1 6 0 0), (3, .ptr 2 6 0 0), (11, vL NodeA.enc p0.kids), (12, vI (p0.kids.length : Int)), (13, vI i1_0)]) (fun (i1_0, i1_1) => [vE p0.enc, some ⟨6, [[vI (0 : Int), vS (⟨#[]⟩ : ByteArray), vB false, .d (.val (.slice none 0 0)), .d (.val (.slice none 0 0)), .d (.val (.slice none 0 0))]]⟩, some ⟨6, [[vI p0.op, vS p0.name, vB p0.num.neg, vL u32V p0.num.num, vL u32V p0.num.den, accV 3 6 ((i1_1.map NodeA.enc).map (·.map .d))]]⟩, accO 6 ((i1_1.map NodeA.enc).map (·.map .d))]) [0, 1, 2, 1003] (fun oJ4 again ⟨i1_0, i1_1⟩ h => ?_) fun e2_0 h => ?_
 ·try dsimp only at h
  refine AW.ro ?_
  refine AW.ks [0, 1, 2, 3] [1, 2, 3, 11, 12, 13, 14] ?_
  refine AW.one ?_
  refine AW.tt h (fun hb5 h => ?_) fun hb5 h => ?_
  ·refine AW.sk ?_
   refine AW.ks [0, 1, 2, 3] [1, 2, 3, 11, 12, 13] ?_
   refine AW.one ?_
   refine AW.block ?_
   refine AW.ro ?_
   refine bx h fun x6 h0 h1 h => ?_
   refine AW.ks [0, 1, 2, 3, 6] [1, 2, 3, 5, 11, 12, 13] ?_
   refine AW.rp ?_
   refine pm h (hself33 _ _) fun r8 hx9 h => ?_
   refine ag (f := NodeA.enc) h fun l10 hx11 h => ?_
   refine AW.ks [0, 1, 2, 10] [1, 2, 3, 11, 12, 13] ?_
   refine AW.rp ?_
   exact na [0, 1, 2, 3] h
  refine AW.ex ?_
  exact ja [0, 1, 2, 3] h
 refine AW.ks [0, 1, 2, 3] [1, 2, 3] ?_
 refine AW.jo h (fun _ => [(2, .ptr 0 6 0 0), (3, .ptr 1 6 0 0)]) (fun _ => [some ⟨6, [[vI (0 : Int), vS (⟨#[]⟩ : ByteArray), vB false, .d (.val (.slice none 0 0)), .d (.val (.slice none 0 0)), .d (.val (.slice none 0 0))]]⟩, some ⟨6, [[vI p0.op, vS p0.name, vB p0.num.neg, vL u32V p0.num.num, vL u32V p0.num.den, accV 2 6 ((e2_0.map NodeA.enc).map (·.map .d))]]⟩, accO 6 ((e2_0.map NodeA.enc).map (·.map .d))]) (fun oJ13 h hJ13 => ?_) fun ⟨⟩ h => ?_
 ·refine AW.jn h (fun v14_0 => [(2, .ptr 0 6 0 0), (3, .ptr 1 6 0 0), (32, vB v14_0)]) (fun v14_0 => [some ⟨6, [[vI (0 : Int), vS (⟨#[]⟩ : ByteArray), vB false, .d (.val (.slice none 0 0)), .d (.val (.slice none 0 0)), .d (.val (.slice none 0 0))]]⟩, some ⟨6, [[vI p0.op, vS p0.name, vB p0.num.neg, vL u32V p0.num.num, vL u32V p0.num.den, accV 2 6 ((e2_0.map NodeA.enc).map (·.map .d))]]⟩, accO 6 ((e2_0.map NodeA.enc).map (·.map .d))]) (fun oJ15 h => ?_) fun v14_0 h => ?_
  ·refine AW.rp ?_
   refine sK h (fun hb16 h => ?_) fun hb16 h => ?_
   ·exact ja [1, 2, 3] h
   exact ja [1, 2, 3] h
  refine AW.tk h (fun hb17 h => ?_) fun hb17 h => ?_
  ·refine AW.ro ?_
   refine AW.ret ?_
   have h := up h hJ13
   cases h; refine nz ?_; exact .aggL ⟨.same _, .same _, .same _, .same _, .same _, (by first | exact sealAcc (by simp only [go_sem, reduceEqDiff, reduceAdd, reduceSub, reduceMul, reduceLeDiff, reduceLT, Nat.reduceBEq, reduceIte]) | exact sealArr (by simp only [go_sem, reduceEqDiff, reduceAdd, reduceSub, reduceMul, reduceLeDiff, reduceLT, Nat.reduceBEq, reduceIte])), trivial⟩
  exact jo [0, 1, 2] h
 refine AW.ro ?_
 refine bi h fun x18 h0 h1 h2 h3 h4 h => ?_
 refine cm h r13_Derive_ok fun r20 hx21 h => ?_
 refine AW.ks [0, 1, 2, 11] [2, 3, 6, 7] ?_
 refine AW.jo h (fun _ => [(2, .ptr 0 6 0 0), (6, .ptr 1 6 0 0)]) (fun _ => [some ⟨6, [[vI (0 : Int), vS (⟨#[]⟩ : ByteArray), vB false, .d (.val (.slice none 0 0)), .d (.val (.slice none 0 0)), .d (.val (.slice none 0 0))]]⟩, vE r20.1.enc]) (fun oJ23 h hJ23 => ?_) fun ⟨⟩ h => ?_
 ·refine AW.jn h (fun v24_0 => [(2, .ptr 0 6 0 0), (3, .ptr 1 6 0 0), (6, .ptr 2 6 0 0), (47, vB v24_0)]) (fun v24_0 => [some ⟨6, [[vI (0 : Int), vS (⟨#[]⟩ : ByteArray), vB false, .d (.val (.slice none 0 0)), .d (.val (.slice none 0 0)), .d (.val (.slice none 0 0))]]⟩, some ⟨6, [[vI p0.op, vS p0.name, vB p0.num.neg, vL u32V p0.num.num, vL u32V p0.num.den, accV 3 6 ((e2_0.map NodeA.enc).map (·.map .d))]]⟩, vE r20.1.enc, accO 6 ((e2_0.map NodeA.enc).map (·.map .d))]) (fun oJ25 h => ?_) fun v24_0 h => ?_
  ·refine AW.rp ?_
   refine sK h (fun hb26 h => ?_) fun hb26 h => ?_
   ·exact ja [0, 1, 3, 2] h
   refine cm h r08_Contains_ok fun r27 hx28 h => ?_
   exact ja [0, 1, 3, 2] h
  refine AW.tk h (fun hb29 h => ?_) fun hb29 h => ?_
  ·refine AW.ro ?_
   refine AW.ret ?_
   have h := up h hJ23
   cases h; refine nz ?_; exact .aggL ⟨.same _, .same _, .same _, .same _, .same _, (by first | exact sealAcc (by simp only [go_sem, reduceEqDiff, reduceAdd, reduceSub, reduceMul, reduceLeDiff, reduceLT, Nat.reduceBEq, reduceIte]) | exact sealArr (by simp only [go_sem, reduceEqDiff, reduceAdd, reduceSub, reduceMul, reduceLeDiff, reduceLT, Nat.reduceBEq, reduceIte])), trivial⟩
  exact jo [0, 2] h
 refine AW.ro ?_
 refine AW.ret ?_
 cases h; refine nz ?_; exact .same _
def r13_pushed (K : Nat) (p0 : NodeA) : Option NodeA := iter K (fun self q => r13_pushed_body K self q) p0
theorem key_r13_pushed {K : Nat} (k : Nat) : (∀ (q : NodeA) (r : NodeA), iter k (fun self q => r13_pushed_body K self q) q = some r → Cn Tryz.prog 33 [aggV q.enc] (aggV r.enc)) := by
 induction k with
 | zero => exact fun q r h => by cases h
 | succ k ih => exact fun q r h => r13_pushed_step K _ ih q r h
theorem r13_pushed_ok {K : Nat} {p0 : NodeA} {r : NodeA} (h : r13_pushed K p0 = some r) : Cn Tryz.prog 33 [aggV p0.enc] (aggV r.enc) := (key_r13_pushed K) p0 r h
/-! ### isochrone/isochroneref13.Push -/
def r13_Push (K : Nat) (p0 : NodeA) : Option (NodeA × Int) := (r08_Sort K p0.op).bind fun r1 =>
 ((
  ((
   if (decide (r1 < (1 : Int))) then
    some true
   else
    some (decide ((3 : Int) < r1))) : Option Bool).bind (fun v5_0 =>
  if v5_0 then
   outM (
    some ((NodeA.mk (0 : Int) (⟨#[]⟩ : ByteArray) (RatA.mk false [] []) []), (80 : Int)))
  else
   some (.go ()))) : Option (Out Unit _)).bind (Out.fin fun _ =>
 (r08_Check K p0 r1).bind fun r9 =>
 if (r9 != (0 : Int)) then
  some ((NodeA.mk (0 : Int) (⟨#[]⟩ : ByteArray) (RatA.mk false [] []) []), r9)
 else
  (r13_pushed K p0).bind fun r12 =>
  (r13_checked K r12 r1).bind fun r14 =>
  some (r14.1, r14.2))
set_option maxHeartbeats 4000000 in
theorem r13_Push_ok {K : Nat} {p0 : NodeA} {r : NodeA × Int} (h : r13_Push K p0 = some r) : Cn Tryz.prog 12 [aggV p0.enc] (.tup [aggV r.1.enc, .d (.val (.int .i64 r.2))]) := by
 refine Cn.oz Tryz.func12 Tryz.call12 Tryz.ntmps12 Tryz.results12 fun hfit => ?_
 unfold r13_Push at h
 refine AW.kr [] [0] ?_
 refine AW.kr [0, 1] [1, 2] ?_
 refine cm h r08_Sort_ok fun r1 hx2 h => ?_
 refine AW.ks [0, 1] [1, 2, 4] ?_
 refine AW.jo h (fun _ => [(1, .ptr 0 6 0 0), (2, .ptr 1 6 0 0), (4, vI r1)]) (fun _ => [vE p0.enc, some ⟨6, [[vI (0 : Int), vS (⟨#[]⟩ : ByteArray), vB false, .d (.val (.slice none 0 0)), .d (.val (.slice none 0 0)), .d (.val (.slice none 0 0))]]⟩]) (fun oJ4 h hJ4 => ?_) fun ⟨⟩ h => ?_
 ·refine AW.jn h (fun v5_0 => [(1, .ptr 0 6 0 0), (2, .ptr 1 6 0 0), (4, vI r1), (14, vB v5_0)]) (fun v5_0 => [vE p0.enc, some ⟨6, [[vI (0 : Int), vS (⟨#[]⟩ : ByteArray), vB false, .d (.val (.slice none 0 0)), .d (.val (.slice none 0 0)), .d (.val (.slice none 0 0))]]⟩]) (fun oJ6 h => ?_) fun v5_0 h => ?_
  ·refine AW.rp ?_
   refine sK h (fun hb7 h => ?_) fun hb7 h => ?_
   ·exact ja [0, 1] h
   exact ja [0, 1] h
  refine AW.tk h (fun hb8 h => ?_) fun hb8 h => ?_
  ·refine AW.ro ?_
   refine AW.ret ?_
   have h := up h hJ4
   cases h; refine nz ?_; exact .tupL ⟨.aggL ⟨.same _, .same _, .same _, .nil, .nil, .nil, trivial⟩, .same _, trivial⟩
  exact jo [0, 1] h
 refine AW.one ?_
 refine AW.ro ?_
 refine cm h r08_Check_ok fun r9 hx10 h => ?_
 refine AW.kr [0, 1] [1, 2, 4, 5] ?_
 refine AW.ks [0, 1] [1, 2, 4, 5, 20] ?_
 refine AW.tk h (fun hb11 h => ?_) fun hb11 h => ?_
 ·refine AW.ro ?_
  refine AW.ret ?_
  cases h; refine nz ?_; exact .tupL ⟨.aggL ⟨.same _, .same _, .same _, .nil, .nil, .nil, trivial⟩, .same _, trivial⟩
 refine AW.kr [0, 1] [1, 2, 4] ?_
 refine cm h r13_pushed_ok fun r12 hx13 h => ?_
 refine cm h r13_checked_ok fun r14 hx15 h => ?_
 refine AW.ret ?_
 cases h; refine nz ?_; exact .same _
/-! ### isochrone/isochronelaw13.DiffPush -/
def law13_DiffPush (K : Nat) (p0 : NodeA) : Option Bool := (law13_awake K ).bind fun r1 =>
 if (!r1) then
  some false
 else
  (law13_small K p0 (60 : Int)).bind fun r4 =>
  if (!r4) then
   some true
  else
   (diff_Push K p0).bind fun r7 =>
   (r13_Push K p0).bind fun r9 =>
   if (r7.2 == r9.2) then
    (r08_Equal K r7.1 r9.1).bind fun r12 =>
    some r12
   else
    some false
set_option maxHeartbeats 4000000 in
theorem law13_DiffPush_ok {K : Nat} {p0 : NodeA} {r : Bool} (h : law13_DiffPush K p0 = some r) : Cn Tryz.prog 4 [aggV p0.enc] (.d (.val (.bool r))) := by
 refine Cn.oz Tryz.func4 Tryz.call4 Tryz.ntmps4 Tryz.results4 fun hfit => ?_
 unfold law13_DiffPush at h
 refine AW.kr [] [0] ?_
 refine AW.ks [0] [1] ?_
 refine AW.one ?_
 refine AW.ro ?_
 refine cm h law13_awake_ok fun r1 hx2 h => ?_
 refine AW.ks [0] [1, 8] ?_
 refine AW.tk h (fun hb3 h => ?_) fun hb3 h => ?_
 ·refine AW.ro ?_
  refine AW.ret ?_
  cases h; refine nz ?_; exact .same _
 refine AW.ks [0] [1] ?_
 refine AW.one ?_
 refine AW.ro ?_
 refine cm h law13_small_ok fun r4 hx5 h => ?_
 refine AW.ks [0] [1, 11] ?_
 refine AW.tk h (fun hb6 h => ?_) fun hb6 h => ?_
 ·refine AW.ro ?_
  refine AW.ret ?_
  cases h; refine nz ?_; exact .same _
 refine AW.kr [0] [1] ?_
 refine cm h diff_Push_ok fun r7 hx8 h => ?_
 refine AW.kr [0, 6] [1, 3, 4] ?_
 refine cm h r13_Push_ok fun r9 hx10 h => ?_
 refine AW.kr [1, 7] [3, 4, 5, 6] ?_
 refine sK h (fun hb11 h => ?_) fun hb11 h => ?_
 ·refine cm h r08_Equal_ok fun r12 hx13 h => ?_
  refine AW.ret ?_
  cases h; refine nz ?_; exact .same _
 refine AW.ret ?_
 cases h; refine nz ?_; exact .same _
end Go.Proofs.YtphmckfokdkecaaGreat
