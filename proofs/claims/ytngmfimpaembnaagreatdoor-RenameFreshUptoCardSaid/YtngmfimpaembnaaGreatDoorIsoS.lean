/- The abstract layer, part S: how the conditions are reckoned, one equation a form. -/
import Derived.Test.YtngmfimpaembnaaGreatDoorIsoH
namespace Go.Iso
open Go Go.RowKit
set_option linter.unusedSimpArgs false
set_option linter.unusedVariables false
section
variable {P : Program} {N B n0 M i id n m : Nat} {fr : Nat → V} {σ : Heap} {Q : Exit → St → Prop} {st : St} {ops : Array Oper} {rest : List Oper} {dr : Bool}
def splitK (t : Bool) (A B : Unit → Prop) : Prop := (t = true → A ()) ∧ (t = false → B ())
theorem splitK_intro {t : Bool} {A B : Unit → Prop} (h1 : t = true → A ()) (h2 : t = false → B ()) : splitK t A B := ⟨h1, h2⟩
theorem splitK_true {A B : Unit → Prop} : splitK true A B = A () := by simp [splitK]
theorem splitK_false {A B : Unit → Prop} : splitK false A B = B () := by simp [splitK]
theorem condK_val {t : Bool} {A B : Unit → Prop} : condK (.d (.val (.bool t))) A B = splitK t A B := nrfl rfl
theorem guardK_t {b : Bool} {A B : Unit → Prop} : guardK (.d (.val (.bool b))) true A B = splitK b A B := by cases b <;> simp [guardK, splitK]
theorem guardK_f {b : Bool} {A B : Unit → Prop} : guardK (.d (.val (.bool b))) false A B = splitK b B A := by cases b <;> simp [guardK, splitK]
theorem guardK_tup {b : Bool} {A B : Unit → Prop} : guardK (.tup []) b A B = B () := nrfl rfl
theorem pickK_val {t : Bool} {x y : V} {K : V → Prop} : pickK (.d (.val (.bool t))) x y K = splitK t (Later (Hold fun _ => K x)) (Later (Hold fun _ => K y)) := nrfl rfl
def numK (n : Nat) (K : Nat → Prop) : Prop := K n
theorem numK_eq {K : Nat → Prop} : numK n K = K n := nrfl rfl
theorem moveK_eq {x : V} {K : V → Prop} : moveK x K = K x := nrfl rfl
theorem vc_skip [Glb] : vc P N B .skip Q st = Q .normal st := nrfl rfl
theorem vc_region [Glb] {l : List Oper} : vc P N B (.region id l.toArray dr) Q ⟨fr, σ, n⟩ = numK (n + l.length) (Later (Hold fun M => vcOps P dr n M l.toArray l 0 fr σ (Later (Hold fun fr σ => Q .normal ⟨fr, σ, M⟩)))) := by
  simp [vc, numK, Later]
theorem vc_seq [Glb] {x y : Code} : vc P N B (.seq x y) Q st = vc P N B x (thenQ (Later (Hold fun s => vc P N B y Q s)) Q) st := nrfl rfl
theorem vc_cond [Glb] {c : Operand} {x y : Code} : vc P N B (.cond c x y) Q st = condK (evO st.fr c) (Later (Hold fun _ => vc P N B x Q st)) (Later (Hold fun _ => vc P N B y Q st)) := nrfl rfl
theorem vc_block [Glb] {c : Code} : vc P N B (.block id c) Q st = vc P N B c (blockQ id Q) st := nrfl rfl
theorem vc_exit [Glb] : vc P N B (.exit id) Q st = Q (.exit id) st := nrfl rfl
theorem vc_ret [Glb] : vc P N B .ret Q st = Q .ret st := nrfl rfl
theorem vc_loop [Glb] {c : Code} : vc P N B (.loop c) Q st = AW P N B (.loop c) Q st := nrfl rfl
@[congr] theorem AW_congr [Glb] {c : Code} : AW P N B c Q st = AW P N B c Q st := nrfl rfl
theorem thenQ_normal {K : St → Prop} : thenQ K Q .normal st = K st := nrfl rfl
theorem thenQ_ret {K : St → Prop} : thenQ K Q .ret st = Q .ret st := nrfl rfl
theorem thenQ_exit {K : St → Prop} : thenQ K Q (.exit id) st = Q (.exit id) st := nrfl rfl
theorem blockQ_normal : blockQ id Q .normal st = Q .normal st := nrfl rfl
theorem blockQ_ret : blockQ id Q .ret st = Q .ret st := nrfl rfl
theorem blockQ_exit : blockQ id Q (.exit i) st = if i = id then Q .normal st else Q (.exit i) st := nrfl rfl
theorem retQ_normal {rs : List ResultVar} {K : St → V → Prop} : retQ P rs K .normal st = resK P st rs (K st) := nrfl rfl
theorem retQ_ret {rs : List ResultVar} {K : St → V → Prop} : retQ P rs K .ret st = resK P st rs (K st) := nrfl rfl
theorem resK_nil {K : V → Prop} : resK P st [] K = K (.tup []) := nrfl rfl
theorem resK_one {r : ResultVar} {K : V → Prop} : resK P st [r] K = oneR P st r K := nrfl rfl
theorem resK_two {r s : ResultVar} {K : V → Prop} : resK P st [r, s] K = oneR P st r (Later (Hold fun v => oneR P st s (Later (Hold fun u => K (.tup [v, u]))))) := nrfl rfl
theorem resK_three {r s q : ResultVar} {K : V → Prop} : resK P st [r, s, q] K = oneR P st r (Later (Hold fun v => oneR P st s (Later (Hold fun u => oneR P st q (Later (Hold fun x => K (.tup [v, u, x]))))))) := nrfl rfl
theorem oneR_tmp {t : Tmp} {K : V → Prop} : oneR P st (.tmp t) K = moveK (st.fr t) K := nrfl rfl
theorem oneR_cell {x : Tmp} {t : TypeId} {K : V → Prop} : oneR P st (.cell x t) K = loadK (aggOf P t) (szOf P t) st.σ (st.fr x) K := nrfl rfl
theorem vcOps_nil [Glb] {K : (Nat → V) → Heap → Prop} : vcOps P dr n0 M ops [] i fr σ K = K fr σ := nrfl rfl
theorem vcOps_cons [Glb] {d : Option Tmp} {op : Op} {t : TypeId} {p : String} {a : Array Edge} {K : (Nat → V) → Heap → Prop} :
    vcOps P dr n0 M ops ({ dst := d, op := op, type := t, pos := p, after := a, guard := none } :: rest) i fr σ K =
      wv P dr M op fr σ (n0 + i) (Later (Hold fun v σ' => vcOps P dr n0 M ops rest (i + 1) (putF fr d v) σ' K)) := nrfl rfl
theorem vcOps_guard [Glb] {d : Option Tmp} {op : Op} {t : TypeId} {p : String} {a : Array Edge} {j : Nat} {want : Bool} {K : (Nat → V) → Heap → Prop} :
    vcOps P dr n0 M ops ({ dst := d, op := op, type := t, pos := p, after := a, guard := some (j, want) } :: rest) i fr σ K =
      guardK (guardV ops fr j) want (Later (Hold fun _ => wv P dr M op fr σ (n0 + i) (Later (Hold fun v σ' => vcOps P dr n0 M ops rest (i + 1) (putF fr d v) σ' K))))
        (Later (Hold fun _ => vcOps P dr n0 M ops rest (i + 1) (putF fr d (.tup [])) σ K)) := nrfl rfl
def dstL : List Oper → Nat → Option Tmp
  | [], _ => none
  | o :: _, 0 => o.dst
  | _ :: r, j + 1 => dstL r j
theorem dstAt_list : ∀ (l : List Oper) (j : Nat), dstAt l.toArray j = dstL l j
  | [], j => by simp [dstAt, dstL]
  | o :: r, 0 => by simp [dstAt, dstL]
  | o :: r, j + 1 => by rw [dstL, ← dstAt_list r j]; simp [dstAt]
def slotV (fr : Nat → V) : Option Tmp → V
  | some t => fr t
  | none => .any
theorem slotV_some {t : Tmp} : slotV fr (some t) = fr t := nrfl rfl
theorem guardV_list {l : List Oper} {j : Nat} : guardV l.toArray fr j = slotV fr (dstL l j) := by
  unfold guardV; rw [dstAt_list]; cases dstL l j <;> rfl
theorem dstL_zero {d : Option Tmp} {op : Op} {t : TypeId} {p : String} {a : Array Edge} {g : Option (Nat × Bool)} : dstL ({ dst := d, op := op, type := t, pos := p, after := a, guard := g } :: rest) 0 = d := nrfl rfl
theorem dstL_succ {o : Oper} {j : Nat} : dstL (o :: rest) (j + 1) = dstL rest j := nrfl rfl
section ops
variable {G : Nat → V} {K : V → Heap → Prop} {x y c f ix : Operand} {t s d : TypeId}
theorem wv_move [Glb] : wv P dr M (.move x) G σ id K = moveK (evO G x) (Later (Hold fun v => K v σ)) := nrfl rfl
theorem wv_nilCheck [Glb] : wv P dr M (.nilCheck x) G σ id K = nilK (evO G x) (Later (Hold fun v => K v σ)) := nrfl rfl
theorem wv_assign [Glb] : wv P dr M (.assign x) G σ id K = moveK (evO G x) (Later (Hold fun v => K v σ)) := nrfl rfl
theorem wv_pick [Glb] : wv P dr M (.pick c x y) G σ id K = pickK (evO G c) (evO G x) (evO G y) (Later (Hold fun v => K v σ)) := nrfl rfl
theorem wv_load [Glb] : wv P dr M (.load t x) G σ id K = loadK (aggOf P t) (szOf P t) σ (evO G x) (Later (Hold fun v => K v σ)) := nrfl rfl
theorem wv_fieldAddr [Glb] {j : Nat} : wv P dr M (.fieldAddr s x j) G σ id K = fldK (fdOf P s j) (evO G x) (Later (Hold fun v => K v σ)) := nrfl rfl
theorem wv_field [Glb] {j : Nat} : wv P dr M (.field s x j) G σ id K = partK (ptOf P s j) (evO G x) (Later (Hold fun v => K v σ)) := nrfl rfl
theorem wv_indexAddr [Glb] : wv P dr M (.indexAddr t x ix) G σ id K = idxK (esOf P t) (evO G x) (evO G ix) (Later (Hold fun v => K v σ)) := nrfl rfl
theorem wv_binOp [Glb] {op : BinOp} {u : TypeId} : wv P dr M (.binOp op t x y u) G σ id K = valK (bopV P op t (evO G x) (evO G y)) (Later (Hold fun v => K v σ)) := nrfl rfl
theorem wv_unOp [Glb] {op : UnOp} : wv P dr M (.unOp op t x) G σ id K = valK (uopV op (evO G x)) (Later (Hold fun v => K v σ)) := nrfl rfl
theorem wv_convert [Glb] : wv P dr M (.convert s d x) G σ id K = cnvK P dr σ s d (evO G x) (Later (Hold fun v => K v σ)) := nrfl rfl
theorem wv_copy [Glb] {s : TypeId} : wv P dr M (.call { callee := .builtin .copy, args := #[x, y], argTypes := #[t, s] }) G σ id K = copyK (elT P t) σ (evO G x) (evO G y) K := nrfl rfl
theorem wv_extract [Glb] {j : Nat} : wv P dr M (.extract x j) G σ id K = extK (evO G x) j (Later (Hold fun v => K v σ)) := nrfl rfl
theorem wv_makeFunc [Glb] {f : FuncId} {l : List Operand} : wv P dr M (.makeFunc (.func f) #[] l.toArray) G σ id K = moveK (.fn f (l.map (evO G))) (Later (Hold fun v => K v σ)) := by
  simp [wv, pv, fnK, moveK]
theorem wv_index [Glb] : wv P dr M (.index t x ix) G σ id K = strK P t (evO G x) (evO G ix) (Later (Hold fun v => K v σ)) := nrfl rfl
theorem wv_len [Glb] : wv P dr M (.call { callee := .builtin .len, args := #[x], argTypes := #[t] }) G σ id K = lenK P t (evO G x) (Later (Hold fun v => K v σ)) := nrfl rfl
theorem wv_min [Glb] {ts : Array TypeId} : wv P dr M (.call { callee := .builtin .min, args := #[x, y], argTypes := ts }) G σ id K = valK (mmV false (evO G x) (evO G y)) (Later (Hold fun v => K v σ)) := nrfl rfl
theorem wv_max [Glb] {ts : Array TypeId} : wv P dr M (.call { callee := .builtin .max, args := #[x, y], argTypes := ts }) G σ id K = valK (mmV true (evO G x) (evO G y)) (Later (Hold fun v => K v σ)) := nrfl rfl
theorem wv_call_t [Glb] {l : List Operand} {ts : Array TypeId} : wv P true M (.call { callee := .value f, args := l.toArray, argTypes := ts }) G σ id K = pcallK P σ (evO G f) (l.map (evO G)) (Later (Hold fun v => K v σ)) := by
  simp [wv]
theorem wv_call_f [Glb] {l : List Operand} {ts : Array TypeId} : wv P false M (.call { callee := .value f, args := l.toArray, argTypes := ts }) G σ id K = callK P (evO G f) (l.map (evO G)) σ M id K := by
  simp [wv]
theorem wv_store [Glb] : wv P dr M (.store t x y) G σ id K = storeK (szOf P t) (evO G x) (evO G y) σ K := nrfl rfl
theorem wv_alloc [Glb] : wv P dr M (.alloc t) G σ id K = allocK (zOf P t) σ id K := nrfl rfl
theorem wv_box [Glb] : wv P dr M (.box t x) G σ id K = boxK (evO G x) σ id K := nrfl rfl
theorem wv_build [Glb] {l : List (Nat × Operand)} : wv P dr M (.build t l.toArray) G σ id K = bldK (stOk P t) (zOf P t) (bldV P t (l.map fun p => (p.1, evO G p.2))) (Later (Hold fun v => K v σ)) := by simp [wv, pv]
theorem wv_slice [Glb] {lo hi : Option Operand} : wv P dr M (.slice t x lo hi none) G σ id K = cutK P t (evO G x) (boundV G lo) (boundV G hi) (Later (Hold fun v => K v σ)) := nrfl rfl
theorem wv_buildSlice [Glb] {len : Nat} {l : List (Nat × Operand)} : wv P dr M (.buildSlice t len l.toArray) G σ id K = numK id (Later (Hold fun id => bsK (elT P t) dr (inOrder 0 l) len (l.map fun p => evO G p.2) σ id K)) := by simp [wv, numK, Later]
theorem wv_makeSlice [Glb] : wv P dr M (.makeSlice t x y) G σ id K = numK id (Later (Hold fun id => mkK (elT P t) σ id (evO G x) (evO G y) K)) := nrfl rfl
theorem wv_append [Glb] {s : TypeId} : wv P dr M (.call { callee := .builtin .append, args := #[x, y], argTypes := #[t, s] }) G σ id K = numK id (Later (Hold fun id => appK (elT P t) (seqT P s) σ id (evO G x) (evO G y) K)) := nrfl rfl
end ops
section forms
variable {K : V → Prop} {L : V → Heap → Prop} {α : Type}
theorem optK_some' {x : α} {K : α → Prop} : optK (some x) K = K x := nrfl rfl
theorem loadK_iptr {g : Bool} {cs : List D} : loadK (some g) (some m) σ (.iptr cs) K = optK (ldV g m (cs.map .d)) K := nrfl rfl
theorem loadK_ptr {g : Bool} {o k i j : Nat} : loadK (some g) (some m) σ (.ptr o k i j) K = optK (σ o) (Later (Hold fun ow => ow.k = k ∧ optK ow.rows[i]? (Later (Hold fun row => optK (ldV g m (row.drop j)) K)))) := nrfl rfl
theorem ldV_t {x : V} {cs : List V} : ldV true n (x :: cs) = if n ≤ (x :: cs).length then some (.agg ((x :: cs).take n)) else none := nrfl rfl
theorem ldV_f {x : V} {cs : List V} : ldV false n (x :: cs) = some x := nrfl rfl
theorem fldK_iptr {off : Nat} {ft : TypeId} {cs : List D} : fldK (some (off, ft)) (.iptr cs) K = moveK (.iptr (cs.drop off)) K := nrfl rfl
theorem fldK_ptr {off : Nat} {ft : TypeId} {o k i j : Nat} : fldK (some (off, ft)) (.ptr o k i j) K = moveK (.ptr o k i (j + off)) K := nrfl rfl
theorem partK_agg {off : Nat} {g : Bool} {cs : List V} : partK (some (off, n, g)) (.agg cs) K = optK (ldV g n (cs.drop off)) K := nrfl rfl
theorem idxK_sl {s : Nat} {xs : List (List D)} {k : IntKind} {z : Int} : idxK (some s) (.d (.sl xs)) (.d (.val (.int k z))) K = (0 ≤ z ∧ optK xs[z.toNat]? (Later (Hold fun row => row.length = s ∧ K (.iptr row)))) := nrfl rfl
theorem idxK_msl {s o k off len : Nat} {ki : IntKind} {z : Int} : idxK (some s) (.msl o k off len) (.d (.val (.int ki z))) K = (0 ≤ z ∧ z < (len : Int) ∧ s = k ∧ moveK (.ptr o k (off + z.toNat) 0) K) := nrfl rfl
theorem valK_val {c : Value} : valK (some c) K = K (.d (.val c)) := nrfl rfl
theorem bopV_val {op : BinOp} {t : TypeId} {c d : Value} : bopV P op t (.d (.val c)) (.d (.val d)) = bop P t op c d := nrfl rfl
theorem uopV_val {op : UnOp} {c : Value} : uopV op (.d (.val c)) = uop op c := nrfl rfl
theorem cvV_val {s d : TypeId} {c : Value} : cvV P s d (.d (.val c)) = cvOf P s d c := nrfl rfl
theorem cnvK_int {dr : Bool} {s d : TypeId} {k : IntKind} {z : Int} : cnvK P dr σ s d (.d (.val (.int k z))) K = valK (cvOf P s d (.int k z)) K := by
  refine propext ⟨fun h => ?_, fun h => .inl h⟩
  rcases h with h | ⟨_, _, zs, h, _⟩
  · exact h
  · cases h with | dn h => cases h
theorem cnvK_str {dr : Bool} {s d : TypeId} {z : ByteArray} : cnvK P dr σ s d (.d (.val (.string z))) K = valK (cvOf P s d (.string z)) K := by
  refine propext ⟨fun h => ?_, fun h => .inl h⟩
  rcases h with h | ⟨_, _, zs, h, _⟩
  · exact h
  · cases h with | dn h => cases h
theorem extK_tup {cs : List V} : extK (.tup cs) n K = optK cs[n]? K := nrfl rfl
theorem strK_val {t : TypeId} {s : ByteArray} {k : IntKind} {z : Int} : strK P t (.d (.val (.string s))) (.d (.val (.int k z))) K = (P.underlying t = some .string ∧ optK (strAt s z) (Later (Hold fun b => K (.d (.val (.int .u8 b.toNat)))))) := nrfl rfl
theorem mmV_f {k k' : IntKind} {a b : Int} : mmV false (.d (.val (.int k a))) (.d (.val (.int k' b))) = some (.int k (if b < a then b else a)) := nrfl rfl
theorem mmV_t {k k' : IntKind} {a b : Int} : mmV true (.d (.val (.int k a))) (.d (.val (.int k' b))) = some (.int k (if b > a then b else a)) := nrfl rfl
theorem lenK_sl {t e : TypeId} {xs : List (List D)} (h : elOf P t = some e) : lenK P t (.d (.sl xs)) K = K (.d (.val (.int .i64 xs.length))) := by
  have := run_elOf h; simp [lenK, lenT, this, lenV, optK, Later]
theorem lenK_nil {t e : TypeId} {a : Option Addr} {k : Nat} (h : elOf P t = some e) : lenK P t (.d (.val (.slice a n k))) K = K (.d (.val (.int .i64 n))) := by
  have := run_elOf h; simp [lenK, lenT, this, lenV, optK, Later]
theorem lenK_msl {t e : TypeId} {o k off len : Nat} (h : elOf P t = some e) : lenK P t (.msl o k off len) K = K (.d (.val (.int .i64 len))) := by
  have := run_elOf h; simp [lenK, lenT, this, lenV, optK, Later]
theorem lenK_str {t : TypeId} {s : ByteArray} (h : P.underlying t = some .string) : lenK P t (.d (.val (.string s))) K = K (.d (.val (.int .i64 s.size))) := by
  simp [lenK, lenT, h, lenV, optK, Later]
theorem storeK_ptr {o k i j : Nat} {y : V} : storeK (some n) (.ptr o k i j) y σ L = optK (σ o) (Later (Hold fun ow => ow.k = k ∧ optK ow.rows[i]? (Later (Hold fun row => rowOk y = true ∧ (∀ v ∈ toRow y, v.one = true) ∧ (toRow y).length = n ∧ j + n ≤ k ∧
      L .any (upd σ o (some ⟨k, ow.rows.set i (putRow row j (toRow y))⟩)))))) := nrfl rfl
def rowK (vs : List V) (K : List V → Prop) : Prop := K vs
theorem rowK_eq {vs : List V} {K : List V → Prop} : rowK vs K = K vs := nrfl rfl
theorem boxK_agg {cs : List V} : boxK (.agg cs) σ id L = numK id (Later (Hold fun id => numK cs.length (Later (Hold fun k => L (.ptr id k 0 0) (upd σ id (some ⟨k, [cs]⟩)))))) := by
  simp [boxK, rowOk, toRow, numK, Later]
theorem boxK_d {x : D} : boxK (.d x) σ id L = numK id (Later (Hold fun id => L (.ptr id 1 0 0) (upd σ id (some ⟨1, [[.d x]]⟩)))) := by
  simp [boxK, rowOk, toRow, numK, Later, V.one]
theorem allocK_some {z : Value} : allocK (some z) σ id L = (rowOk (constV z) = true ∧ numK id (Later (Hold fun id => numK (toRow (constV z)).length (Later (Hold fun k => rowK (toRow (constV z)) (Later (Hold fun cs => L (.ptr id k 0 0) (upd σ id (some ⟨k, [cs]⟩))))))))) := nrfl rfl
theorem evO_tmp {G : Nat → V} {t : Tmp} : evO G (.tmp t) = G t := nrfl rfl
theorem evO_const {G : Nat → V} {c : Value} : evO G (.const c) = constV c := nrfl rfl
theorem evO_func {G : Nat → V} {f : FuncId} : evO G (.func f) = .fn f [] := nrfl rfl
theorem constV_int {k : IntKind} {z : Int} : constV (.int k z) = .d (.val (.int k z)) := nrfl rfl
theorem constV_bool {b : Bool} : constV (.bool b) = .d (.val (.bool b)) := nrfl rfl
theorem constV_string {s : List UInt8} : constV (.string ⟨s.toArray⟩) = if s.length ≤ 9223372036854775807 then .d (.val (.string ⟨s.toArray⟩)) else .any := by simp [constV, constC, ByteArray.size]
theorem constV_slice {a : Option Addr} {k : Nat} : constV (.slice a n k) = .d (.val (.slice a n k)) := nrfl rfl
theorem constV_nilFunc : constV .nilFunc = .d (.val .nilFunc) := nrfl rfl
theorem constV_pointer {a : Option Addr} : constV (.pointer a) = .d (.val (.pointer a)) := nrfl rfl
theorem constV_map {a : Option Nat} : constV (.map a) = .d (.val (.map a)) := nrfl rfl
theorem constV_agg {l : List Value} : constV (.agg l.toArray) = .agg (l.map constC) := nrfl rfl
theorem constC_int {k : IntKind} {z : Int} : constC (.int k z) = .d (.val (.int k z)) := nrfl rfl
theorem constC_bool {b : Bool} : constC (.bool b) = .d (.val (.bool b)) := nrfl rfl
theorem constC_string {s : List UInt8} : constC (.string ⟨s.toArray⟩) = if s.length ≤ 9223372036854775807 then .d (.val (.string ⟨s.toArray⟩)) else .any := by simp [constC, ByteArray.size]
theorem constC_slice {a : Option Addr} {k : Nat} : constC (.slice a n k) = .d (.val (.slice a n k)) := nrfl rfl
theorem constC_nilFunc : constC .nilFunc = .d (.val .nilFunc) := nrfl rfl
theorem constC_pointer {a : Option Addr} : constC (.pointer a) = .d (.val (.pointer a)) := nrfl rfl
theorem constC_map {a : Option Nat} : constC (.map a) = .d (.val (.map a)) := nrfl rfl
theorem putF_at {t s : Tmp} {v : V} : putF fr (some s) v t = if t = s then v else fr t := nrfl rfl
theorem putF_none {v : V} : putF fr none v = fr := nrfl rfl
theorem upd_at {α : Type} {f : Nat → α} {x : α} : upd f n x m = if m = n then x else f m := nrfl rfl
theorem argF_at {l : List V} : argF l n = (l[n]?).getD .any := nrfl rfl
theorem toRow_agg {cs : List V} : toRow (.agg cs) = cs := nrfl rfl
theorem toRow_d {x : D} : toRow (.d x) = [.d x] := nrfl rfl
theorem toRow_ptr {o k i j : Nat} : toRow (.ptr o k i j) = [.ptr o k i j] := nrfl rfl
theorem toRow_msl {o k i j : Nat} : toRow (.msl o k i j) = [.msl o k i j] := nrfl rfl
theorem toRow_fn {f : FuncId} {cs : List V} : toRow (.fn f cs) = [.fn f cs] := nrfl rfl
theorem one_d {x : D} : V.one (.d x) = true := nrfl rfl
theorem one_ptr {o k i j : Nat} : V.one (.ptr o k i j) = true := nrfl rfl
theorem one_msl {o k i j : Nat} : V.one (.msl o k i j) = true := nrfl rfl
theorem one_fn {f : FuncId} {cs : List V} : V.one (.fn f cs) = true := nrfl rfl
theorem rowOk_agg {cs : List V} : rowOk (.agg cs) = true := nrfl rfl
theorem rowOk_d {x : D} : rowOk (.d x) = true := nrfl rfl
theorem rowOk_ptr {o k i j : Nat} : rowOk (.ptr o k i j) = true := nrfl rfl
theorem rowOk_msl {o k i j : Nat} : rowOk (.msl o k i j) = true := nrfl rfl
theorem rowOk_fn {f : FuncId} {cs : List V} : rowOk (.fn f cs) = true := nrfl rfl
theorem bldK_some {ok : Bool} {z : Value} {out : List V → Option (List V)} : bldK ok (some z) out K = (ok = true ∧ rowOk (constV z) = true ∧ optK (out (toRow (constV z))) (Later (Hold fun cs => K (.agg cs)))) := nrfl rfl
def stepB (pl : Option (Nat × Nat)) (v : V) (cs : List V) : Option (List V) :=
  match pl with
  | some (off, n) => if rowOk v = true ∧ (toRow v).length = n ∧ off + n ≤ cs.length then some (putRow cs off (toRow v)) else none
  | none => none
theorem stepB_some {off : Nat} {v : V} {cs : List V} : stepB (some (off, n)) v cs = if rowOk v = true ∧ (toRow v).length = n ∧ off + n ≤ cs.length then some (putRow cs off (toRow v)) else none := nrfl rfl
theorem bldV_nil {t : TypeId} {cs : List V} : bldV P t [] cs = some cs := nrfl rfl
theorem bldV_cons {t : TypeId} {j : Nat} {v : V} {r : List (Nat × V)} {cs : List V} : bldV P t ((j, v) :: r) cs = (stepB (plOf P t j) v cs).bind (bldV P t r) := by
  unfold stepB; rw [bldV]; split
  · next h => rw [h]; simp only; split <;> rfl
  · next h => rw [h]; rfl
theorem optBind_some {α β : Type} {x : α} {f : α → Option β} : (some x).bind f = f x := nrfl rfl
theorem asDs_nil : asDs [] = some [] := nrfl rfl
theorem asDs_cons {x : D} {r : List V} : asDs (.d x :: r) = (asDs r).map (x :: ·) := nrfl rfl
theorem asDs_data {l : List D} : asDs (l.map .d) = some l := by
  induction l with
  | nil => rfl
  | cons x r ih => rw [List.map_cons, asDs_cons, ih]; rfl
theorem asDs_msl {o k i j : Nat} {r : List V} : asDs (.msl o k i j :: r) = none := nrfl rfl
theorem asDs_ptr {o k i j : Nat} {r : List V} : asDs (.ptr o k i j :: r) = none := nrfl rfl
theorem asDs_fn {f : FuncId} {cs r : List V} : asDs (.fn f cs :: r) = none := nrfl rfl
def asRowsC (a : Option (List D)) (b : Option (List (List D))) : Option (List (List D)) := match a, b with | some d, some ds => some (d :: ds) | _, _ => none
theorem asRows_nil : asRows [] = some [] := nrfl rfl
theorem asRows_cons {r : List V} {rs : List (List V)} : asRows (r :: rs) = asRowsC (asDs r) (asRows rs) := nrfl rfl
theorem asRowsC_some {d : List D} {ds : List (List D)} : asRowsC (some d) (some ds) = some (d :: ds) := nrfl rfl
theorem asRowsC_none {b : Option (List (List D))} : asRowsC none b = none := nrfl rfl
theorem asRowsC_none' {a : Option (List D)} : asRowsC a none = none := by cases a <;> rfl
def bsF (a : Option (List (List D))) (dr : Bool) (len : Nat) (K1 : List (List D) → Prop) (K2 : Unit → Prop) : Prop :=
  match a, dr || len != 0 with
  | some ds, true => K1 ds
  | _, _ => dr = false ∧ K2 ()
theorem bsK_some {b : Nat} {z : List V} {ord : Bool} {len : Nat} {vs : List V} : bsK (some (n, b, z)) dr ord len vs σ id L =
    (ord = true ∧ vs.length = len ∧ len * n ≤ 16777216 ∧ (∀ v ∈ vs, rowOk v = true ∧ (toRow v).length = n) ∧ bsF (asRows (vs.map toRow)) dr len (Later (Hold fun ds => L (.d (.sl ds)) σ)) (Later (Hold fun _ => L (.msl id n 0 len) (upd σ id (some ⟨n, vs.map toRow⟩))))) := nrfl rfl
theorem bsF_some {ds : List (List D)} {len : Nat} {K1 : List (List D) → Prop} {K2 : Unit → Prop} : bsF (some ds) dr (len + 1) K1 K2 = K1 ds := by cases dr <;> rfl
theorem bsF_zero {a : Option (List (List D))} {K1 : List (List D) → Prop} {K2 : Unit → Prop} : bsF a false 0 K1 K2 = K2 () := by cases a <;> simp [bsF]
theorem bsF_none {len : Nat} {K1 : List (List D) → Prop} {K2 : Unit → Prop} : bsF none false len K1 K2 = K2 () := by simp [bsF]
theorem inOrder_nil {i : Nat} : inOrder i [] = true := nrfl rfl
theorem inOrder_cons {i j : Nat} {x : Operand} {r : List (Nat × Operand)} : inOrder i ((j, x) :: r) = (j == i && inOrder (i + 1) r) := nrfl rfl
theorem nilK_ptr {o k i j : Nat} : nilK (.ptr o k i j) K = K (.ptr o k i j) := by simp [nilK, isPtr]
theorem nilK_iptr {cs : List D} : nilK (.iptr cs) K = K (.iptr cs) := by simp [nilK, isPtr]
theorem cutK_str {t : TypeId} {s : ByteArray} {l h : Option Int} : cutK P t (.d (.val (.string s))) (some l) (some h) K = (P.underlying t = some .string ∧ optK (cutStr s l h) (Later (Hold fun r => K (.d (.val (.string r)))))) := nrfl rfl
theorem cutK_sl {t : TypeId} {xs : List (List D)} {l h : Option Int} : cutK P t (.d (.sl xs)) (some l) (some h) K = sliceK (esOf P t) xs l h K := nrfl rfl
theorem cutL_map {β : Type} {f : β → List D} {ys : List β} {l h : Option Int} : cutL (ys.map f) l h = (cutL ys l h).map (List.map f) := by
  unfold cutL; simp only [List.length_map]; split
  · simp [List.map_take, List.map_drop]
  · rfl
theorem sliceK_map {β : Type} {f : β → List D} {ys : List β} {s : Nat} {l h : Option Int} (hf : ∀ x, (f x).length = s) : sliceK (some s) (ys.map f) l h K = optK (cutL ys l h) (Later (Hold fun r => K (.d (.sl (r.map f))))) := by
  unfold sliceK
  rw [cutL_map]
  cases cutL ys l h with
  | none => simp [optK]
  | some r => simp [optK, hf, Later]
theorem boundV_none {G : Nat → V} : boundV G none = some none := nrfl rfl
theorem boundV_some {G : Nat → V} {x : Operand} : boundV G (some x) = (intOfV (evO G x)).map some := nrfl rfl
theorem intOfV_int {k : IntKind} {z : Int} : intOfV (.d (.val (.int k z))) = some z := nrfl rfl
theorem app_msl {n byt o len : Nat} {z : List V} {sq : Bool} {y : V} {ow : Own} {src : List (List V)} (hsq : sq = true) (h2 : σ o = some ow) (h3 : ow.k = n) (h4 : ow.rows.length = len) (h5 : srcRows σ y = some src) (h6 : ∀ r ∈ src, r.length = n) (h7 : RowsOne src)
    (h8 : (2 * (len + src.length) + 1000) * byt ≤ 2 ^ 48) (k : L (.msl id n 0 (len + src.length)) (upd (del σ o) id (some ⟨n, ow.rows ++ src⟩))) : appK (some (n, byt, z)) sq σ id (.msl o n 0 len) y L :=
  ⟨n, byt, z, rfl, hsq, .inl ⟨o, len, ow, src, rfl, h2, h3, h4, h5, h6, h7, h8, k⟩⟩
theorem app_data {n byt : Nat} {z : List V} {sq : Bool} {ys : List (List D)} (hsq : sq = true) (h6 : ∀ r ∈ ys, r.length = n)
    (h8 : (2 * ys.length + 1000) * byt ≤ 2 ^ 48) (k : L (.d (.sl ys)) σ) : appK (some (n, byt, z)) sq σ id (.d (.val (.slice none 0 0))) (.d (.sl ys)) L :=
  ⟨n, byt, z, rfl, hsq, .inr (.inr ⟨ys, rfl, rfl, h6, h8, k⟩)⟩
theorem rowsOne_data {rows : List (List D)} : RowsOne (rows.map (·.map .d)) := by
  intro r hr v hv
  obtain ⟨d, _, rfl⟩ := List.mem_map.1 hr
  obtain ⟨x, _, rfl⟩ := List.mem_map.1 hv
  rfl
theorem srcRows_sl {ys : List (List D)} : srcRows σ (.d (.sl ys)) = some (ys.map (·.map .d)) := nrfl rfl
theorem del_at {o : Nat} : del σ o m = if m = o then none else σ m := nrfl rfl
end forms
section vals
variable {t : TypeId} {k : IntKind} {a b : Int} {x y : ByteArray} {u v : Bool}
theorem bop_add : bop P t .add (.int k a) (.int k b) = some (.int k (k.wrap (a + b))) := by simp [bop]
theorem bop_sub : bop P t .sub (.int k a) (.int k b) = some (.int k (k.wrap (a - b))) := by simp [bop]
theorem bop_mul : bop P t .mul (.int k a) (.int k b) = some (.int k (k.wrap (a * b))) := by simp [bop]
theorem bop_quo (h : b ≠ 0) : bop P t .quo (.int k a) (.int k b) = some (.int k (k.wrap (a.tdiv b))) := by simp [bop, h]
theorem bop_rem (h : b ≠ 0) : bop P t .rem (.int k a) (.int k b) = some (.int k (a.tmod b)) := by simp [bop, h]
theorem bop_eql : bop P t .eql (.int k a) (.int k b) = some (.bool (a == b)) := by simp [bop]
theorem bop_neq : bop P t .neq (.int k a) (.int k b) = some (.bool (a != b)) := by simp [bop]
theorem bop_lss : bop P t .lss (.int k a) (.int k b) = some (.bool (decide (a < b))) := by simp [bop]
theorem bop_leq : bop P t .leq (.int k a) (.int k b) = some (.bool (decide (a ≤ b))) := by simp [bop]
theorem bop_gtr : bop P t .gtr (.int k a) (.int k b) = some (.bool (decide (b < a))) := by simp [bop]
theorem bop_geq : bop P t .geq (.int k a) (.int k b) = some (.bool (decide (b ≤ a))) := by simp [bop]
theorem bop_str_eql : bop P t .eql (.string x) (.string y) = some (.bool (x.toList == y.toList)) := by simp [bop]
theorem bop_str_neq : bop P t .neq (.string x) (.string y) = some (.bool (!(x.toList == y.toList))) := by simp [bop]
theorem bop_str_lss : bop P t .lss (.string x) (.string y) = some (.bool (Op.bytesLess x.toList y.toList)) := by simp [bop]
theorem bop_str_leq : bop P t .leq (.string x) (.string y) = some (.bool (Op.bytesLess x.toList y.toList || x.toList == y.toList)) := by simp [bop]
theorem bop_str_gtr : bop P t .gtr (.string x) (.string y) = some (.bool (!(Op.bytesLess x.toList y.toList || x.toList == y.toList))) := by simp [bop]
theorem bop_str_geq : bop P t .geq (.string x) (.string y) = some (.bool (!Op.bytesLess x.toList y.toList)) := by simp [bop]
theorem bop_bool_eql (h : boolT P t = true) : bop P t .eql (.bool u) (.bool v) = some (.bool (u == v)) := by simp [bop, h]
theorem bop_bool_neq (h : boolT P t = true) : bop P t .neq (.bool u) (.bool v) = some (.bool (!(u == v))) := by simp [bop, h]
theorem uop_not : uop .not (.bool u) = some (.bool !u) := nrfl rfl
theorem uop_neg : uop .neg (.int k a) = some (.int k (k.wrap (0 - a))) := nrfl rfl
theorem wrap_i64 (h1 : -9223372036854775808 ≤ a) (h2 : a ≤ 9223372036854775807) : IntKind.wrap .i64 a = a := by
  simp only [IntKind.wrap, IntKind.bits, IntKind.signed, Bool.true_and]
  split <;> simp only [decide_eq_true_eq, ge_iff_le] at * <;> omega
end vals
theorem pcallK_intro [Glb] {f : FuncId} {caps args : List V} {v : V} {K : V → Prop} (h : Cn P f (args ++ caps) v) (hr : V.refsL NoRef (args ++ caps)) (k : K v) : pcallK P σ (.fn f caps) args K :=
  ⟨v, args ++ caps, h, ⟨hr, .inl (SealAll.refl _)⟩, k⟩
theorem callK_pure [Glb] {f : FuncId} {caps args : List V} {v : V} {L : V → Heap → Prop} (h : Cn P f (args ++ caps) v) (hr : V.refsL NoRef (args ++ caps)) (k : L v σ) : callK P (.fn f caps) args σ N id L :=
  ⟨v, σ, .inl ⟨args ++ caps, h, ⟨hr, .inl (SealAll.refl _)⟩, rfl⟩, k⟩
theorem SealV.aggL {cs ds : List V} (h : SealAll σ cs ds) : SealV σ (.agg cs) (.agg ds) := .agg h.get.1 fun i hi hj => h.get.2 i hi hj
theorem SealV.tupL {cs ds : List V} (h : SealAll σ cs ds) : SealV σ (.tup cs) (.tup ds) := .tup h.get.1 fun i hi hj => h.get.2 i hi hj
theorem SealV.fnL {f : FuncId} {cs ds : List V} (h : SealAll σ cs ds) : SealV σ (.fn f cs) (.fn f ds) := .fn h.get.1 fun i hi hj => h.get.2 i hi hj
theorem SealV.nil {a : Option Addr} {k : Nat} : SealV σ (.d (.val (.slice a 0 k))) (.d (.sl [])) := .d (.nil a k)
theorem callK_conv [Glb] {f : FuncId} {caps args args' : List V} {v : V} {L : V → Heap → Prop} (h : Cn P f args' v) (hs : SealAll Heap.none (args ++ caps) args') (hr : V.refsL NoRef args') (k : L v σ) : callK P (.fn f caps) args σ N id L :=
  ⟨v, σ, .inl ⟨args', h, ⟨hr, .inl hs⟩, rfl⟩, k⟩
theorem callK_look [Glb] {f : FuncId} {caps args args' : List V} {v : V} {L : V → Heap → Prop} (h : Cn P f args' v) (hs : SealAll σ (args ++ caps) args') (hr : V.refsL NoRef args') (hv : v.flat) (k : L v σ) : callK P (.fn f caps) args σ N id L :=
  ⟨v, σ, .inl ⟨args', h, ⟨hr, .inr ⟨hs, hv⟩⟩, rfl⟩, k⟩
end
end Go.Iso
