/- The lemmas by which the conditions are reckoned, tagged. No condition. -/
import Derived.Test.YtphgabghcedphaaGreatDoorT
namespace Go.Proofs.YtphgabghcedphaaGreatDoor
open Go Go.Iso Go.Proofs
attribute [go_sem ↓] Later_apply vc_skip vc_region vc_seq vc_cond vc_block vc_exit vc_ret
attribute [go_sem ↓] vc_loop loopV_zero loopV_one loopV_two loopV_three thenQ_normal thenQ_ret thenQ_exit
attribute [go_sem ↓] blockQ_normal blockQ_ret blockQ_exit retQ_normal retQ_ret resK_nil resK_one resK_two
attribute [go_sem ↓] resK_three oneR_tmp oneR_cell vcOps_nil vcOps_cons vcOps_guard wv_move wv_nilCheck
attribute [go_sem ↓] wv_assign wv_pick wv_load wv_fieldAddr wv_field wv_indexAddr wv_binOp wv_unOp
attribute [go_sem ↓] wv_convert wv_copy wv_extract wv_makeFunc wv_index wv_len wv_min wv_max
attribute [go_sem ↓] wv_call_t wv_call_f wv_store wv_alloc wv_box wv_build wv_slice wv_buildSlice
attribute [go_sem ↓] wv_makeSlice wv_append del_at hpA_at endH_nil endH_cons updH_nil updH_cons
attribute [go_sem ↓] inH_nil inH_cons mkR_eq hpO_at okR_cons okR_nil inR_cons inR_nil
attribute [go_sem ↓] rangeB_zero rangeB_succ roundC_eq guardV_list dstL_zero dstL_succ slotV_some evO_tmp
attribute [go_sem ↓] evO_const evO_func putF_at putF_none upd_at argF_at mkS_eq frL_cons
attribute [go_sem ↓] frL_nil hpL_cons hpL_nil okF_cons okF_nil okH_cons okH_nil okRows_cons
attribute [go_sem ↓] okRows_nil refs_d refs_any refs_iptr refs_ptr refs_msl refs_agg refs_tup
attribute [go_sem ↓] refs_fn refsL_nil refsL_cons refsL_data LoopQ List.length_cons List.length_nil List.getElem?_cons_zero
attribute [go_sem ↓] List.getElem?_cons_succ List.drop_succ_cons List.drop_zero
attribute [go_sem] splitK_true splitK_false condK_val guardK_t guardK_f guardK_tup pickK_val numK_eq
attribute [go_sem] moveK_eq optK_some' loadK_iptr loadK_ptr ldV_t ldV_f fldK_iptr fldK_ptr
attribute [go_sem] partK_agg idxK_sl idxK_msl valK_val bopV_val uopV_val cvV_val cnvK_int
attribute [go_sem] cnvK_str extK_tup strK_val mmV_f mmV_t storeK_ptr rowK_eq boxK_agg
attribute [go_sem] boxK_d allocK_some constV_int constV_bool constV_string constV_slice constV_nilFunc constV_pointer
attribute [go_sem] constV_map constV_agg constC_int constC_bool constC_string constC_slice constC_nilFunc constC_pointer
attribute [go_sem] constC_map toRow_agg toRow_d toRow_ptr toRow_msl toRow_fn one_d one_ptr
attribute [go_sem] one_msl one_fn rowOk_agg rowOk_d rowOk_ptr rowOk_msl rowOk_fn bop_add
attribute [go_sem] bop_sub bop_mul bop_eql bop_neq bop_lss bop_leq bop_gtr bop_geq
attribute [go_sem] bop_str_eql bop_str_neq bop_str_lss bop_str_leq bop_str_gtr bop_str_geq bop_bool_eql bop_bool_neq
attribute [go_sem] uop_not uop_neg bop_shr1 join_some inO_none inO_some accV_nil accO_nil
attribute [go_sem] renV_acc refs_acc inO_acc renRows_data List.nodup_cons List.nodup_nil not_false_eq_true or_self
attribute [go_sem] renRow_nil renRow_cons renRows_nil renRows_cons renV_any renV_d renV_iptr renV_ptr
attribute [go_sem] renV_msl renV_agg renV_tup renV_fn renRow_data List.getD_cons_zero List.getD_cons_succ strAt_nat
attribute [go_sem] putRow bldK_some stepB_some bldV_nil bldV_cons optBind_some asDs_nil asDs_cons
attribute [go_sem] asDs_data asDs_msl asDs_ptr asDs_fn asRows_nil asRows_cons asRowsC_some asRowsC_none
attribute [go_sem] asRowsC_none' bsK_some bsF_some bsF_zero bsF_none inOrder_nil inOrder_cons cutK_str
attribute [go_sem] cutK_sl sliceK_map nilK_ptr nilK_iptr boundV_none boundV_some intOfV_int beq_self_eq_true
attribute [go_sem] Bool.and_self Bool.and_true Bool.true_and ldV_node ldV_cert ldV_proof ldV_pair ldV_pair0
attribute [go_sem] ldV_pair1 ldV_pair2 all_one List.map_drop ldV_step NodeA.enc_mk CertA.enc_mk ProofA.enc_mk
attribute [go_sem] RatA.enc MonoA.enc PolyA.enc SquareA.enc NodeA.enc_len CertA.enc_len ProofA.enc_len PairA.enc_len
attribute [go_sem] StepA.enc_len List.map_cons List.map_nil List.map_append List.cons_append List.nil_append List.append_nil List.length_map
attribute [go_sem] List.drop_nil List.take_succ_cons List.take_zero List.take_nil List.head?_cons List.getElem?_nil List.getElem?_map List.set_cons_zero
attribute [go_sem] List.set_cons_succ Option.getD_some Option.getD_none Option.map_some true_and and_true and_self Bool.false_eq_true
attribute [go_sem] Bool.true_eq_false Bool.not_true Bool.not_false List.mem_cons List.not_mem_nil or_false forall_eq forall_eq_or_imp
attribute [go_sem] Nat.zero_add Nat.add_zero Nat.le_refl Int.toNat_natCast Int.natCast_nonneg Nat.add_assoc
attribute [go_sem] sz3 ag3
attribute [go_sem] zo3 sz4 ag4 bo4
attribute [go_sem] sz9 ag9 ls9
attribute [go_sem] us9
attribute [go_sem] sz22 ag22
attribute [go_sem] sq22 el22 es22 et22 ln22
attribute [go_sem] sz24 ag24
attribute [go_sem] zo24 st24 pl24_0 fd24_0 pl24_1 fd24_1
attribute [go_sem] pl24_2 fd24_2 sz25 ag25 sq25 el25
attribute [go_sem] es25 et25 ln25
attribute [go_sem] sz27 ag27
attribute [go_sem] zo27 st27 pl27_0 fd27_0 pl27_1 fd27_1
attribute [go_sem] pl27_2 fd27_2 pt27_2 pl27_3 fd27_3
attribute [go_sem] el28
attribute [go_sem] sq29 el29 es29 et29
attribute [go_sem] ln29
attribute [go_sem] sz36 ag36 sq36 el36
attribute [go_sem] es36 et36 ln36
attribute [go_sem] el58 es58 ln58
attribute [go_sem] sq61 el61 es61 et61 ln61 lm61 la61
attribute [go_sem] sz62 ag62 sq62 el62 es62 et62 ln62
attribute [go_sem] lm62
attribute [go_sem] sz64 ag64 zo64 st64 pl64_0 fd64_0 pl64_1
attribute [go_sem] fd64_1 pl64_2 fd64_2
attribute [go_sem] sz66 ag66 zo66
attribute [go_sem] st66 pl66_0 fd66_0 pl66_1 fd66_1 pl66_2
attribute [go_sem] fd66_2 pl66_3 fd66_3 pt66_3
attribute [go_sem] sz76 ag76 zo76 st76 pl76_0 fd76_0
attribute [go_sem] pl76_1 fd76_1
attribute [go_sem] sz88 ag88 zo88 sz89
attribute [go_sem] ag89 zo89
attribute [go_sem] sz91 ag91 zo91 st91
attribute [go_sem] pl91_0 fd91_0 pl91_1 fd91_1
attribute [go_sem] sz94 ag94
attribute [go_sem] zo94 fd94_0 fd94_1
attribute [go_sem] fd94_2
attribute [go_sem] sz115 ag115
attribute [go_sem] zo115 st115 fd115_0 fd115_1
attribute [go_sem] fd115_2
attribute [go_sem] sz120
attribute [go_sem] ag120
attribute [go_sem] el164
end Go.Proofs.YtphgabghcedphaaGreatDoor
