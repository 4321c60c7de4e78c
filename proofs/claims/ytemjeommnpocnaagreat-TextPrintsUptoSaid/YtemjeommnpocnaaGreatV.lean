/- The lemmas by which the conditions are reckoned, tagged. No condition. -/
import Derived.Test.YtemjeommnpocnaaGreatT
namespace Go.Proofs.YtemjeommnpocnaaGreat
open Go Go.Iso Go.Proofs
attribute [go_sem ↓] Later_apply vc_skip vc_region vc_seq vc_cond vc_block vc_exit vc_ret
attribute [go_sem ↓] vc_loop loopV_zero loopV_one loopV_two loopV_three thenQ_normal thenQ_ret thenQ_exit
attribute [go_sem ↓] blockQ_normal blockQ_ret blockQ_exit retQ_normal retQ_ret resK_nil resK_one resK_two
attribute [go_sem ↓] resK_three oneR_tmp oneR_cell vcOps_nil vcOps_cons vcOps_guard wv_move wv_nilCheck
attribute [go_sem ↓] wv_assign wv_pick wv_load wv_fieldAddr wv_field wv_indexAddr wv_binOp wv_unOp
attribute [go_sem ↓] wv_convert wv_copy wv_extract wv_makeFunc wv_index wv_len wv_min wv_max
attribute [go_sem ↓] wv_call_t wv_call_f wv_store wv_alloc wv_box wv_build wv_slice wv_buildSlice
attribute [go_sem ↓] wv_makeSlice wv_append del_at hpA_at endH_nil endH_cons updH_nil updH_cons
attribute [go_sem ↓] inH_nil inH_cons mkR_eq hpO_at okR_cons okR_nil inR_cons inR_nil
attribute [go_sem ↓] rangeB_zero rangeB_succ roundC_eq guardV_list dstL_zero dstL_succ slotV_some evO_tmp
attribute [go_sem ↓] evO_const evO_func putF_at putF_none upd_at argF_at mkS_eq frL_cons
attribute [go_sem ↓] frL_nil hpL_cons hpL_nil okF_cons okF_nil okH_cons okH_nil okRows_cons
attribute [go_sem ↓] okRows_nil refs_d refs_any refs_iptr refs_ptr refs_msl refs_agg refs_tup
attribute [go_sem ↓] refs_fn refsL_nil refsL_cons refsL_data LoopQ List.length_cons List.length_nil List.getElem?_cons_zero
attribute [go_sem ↓] List.getElem?_cons_succ List.drop_succ_cons List.drop_zero
attribute [go_sem] splitK_true splitK_false condK_val guardK_t guardK_f guardK_tup pickK_val numK_eq
attribute [go_sem] moveK_eq optK_some' loadK_iptr loadK_ptr ldV_t ldV_f fldK_iptr fldK_ptr
attribute [go_sem] partK_agg idxK_sl idxK_msl valK_val bopV_val uopV_val cvV_val cnvK_int
attribute [go_sem] cnvW_d cnvW_ne cnvK_str extK_tup strK_val mmV_f mmV_t storeK_ptr
attribute [go_sem] rowK_eq boxK_agg boxK_d allocK_some constV_int constV_bool constV_string constV_slice
attribute [go_sem] constV_nilFunc constV_pointer constV_map constV_agg constC_int constC_bool constC_string constC_slice
attribute [go_sem] constC_nilFunc constC_pointer constC_map toRow_agg toRow_d toRow_ptr toRow_msl toRow_fn
attribute [go_sem] one_d one_ptr one_msl one_fn rowOk_agg rowOk_d rowOk_ptr rowOk_msl
attribute [go_sem] rowOk_fn bop_add bop_sub bop_mul bop_eql bop_neq bop_lss bop_leq
attribute [go_sem] bop_gtr bop_geq bop_str_eql bop_str_neq bop_str_lss bop_str_leq bop_str_gtr bop_str_geq
attribute [go_sem] bop_bool_eql bop_bool_neq uop_not uop_neg bop_shr1 join_some inO_none inO_some
attribute [go_sem] accV_nil accO_nil renV_acc refs_acc inO_acc renRows_data List.nodup_cons List.nodup_nil
attribute [go_sem] not_false_eq_true or_self renRow_nil renRow_cons renRows_nil renRows_cons renV_any renV_d
attribute [go_sem] renV_iptr renV_ptr renV_msl renV_agg renV_tup renV_fn renRow_data List.getD_cons_zero
attribute [go_sem] List.getD_cons_succ strAt_nat putRow bldK_some stepB_some bldV_nil bldV_cons optBind_some
attribute [go_sem] asDs_nil asDs_cons asDs_data asDs_msl asDs_ptr asDs_fn asRows_nil asRows_cons
attribute [go_sem] asRowsC_some asRowsC_none asRowsC_none' bsK_some bsF_some bsF_draw bsF_one bsF_zero
attribute [go_sem] bsF_none inOrder_nil inOrder_cons cutK_str cutK_sl sliceK_map nilK_ptr nilK_iptr
attribute [go_sem] boundV_none boundV_some intOfV_int beq_self_eq_true Bool.and_self Bool.and_true Bool.true_and ldV_node
attribute [go_sem] ldV_cert ldV_proof ldV_pair ldV_pair0 ldV_pair1 ldV_pair2 all_one List.map_drop
attribute [go_sem] ldV_step NodeA.enc_mk CertA.enc_mk ProofA.enc_mk RatA.enc MonoA.enc PolyA.enc SquareA.enc
attribute [go_sem] NodeA.enc_len CertA.enc_len ProofA.enc_len PairA.enc_len StepA.enc_len List.map_cons List.map_nil List.map_append
attribute [go_sem] List.cons_append List.nil_append List.append_nil List.length_map List.drop_nil List.take_succ_cons List.take_zero List.take_nil
attribute [go_sem] List.head?_cons List.getElem?_nil List.getElem?_map List.set_cons_zero List.set_cons_succ Option.getD_some Option.getD_none Option.map_some
attribute [go_sem] true_and and_true and_self Bool.false_eq_true Bool.true_eq_false Bool.not_true Bool.not_false List.mem_cons
attribute [go_sem] List.not_mem_nil or_false forall_eq forall_eq_or_imp Nat.zero_add Nat.add_zero Nat.le_refl Int.toNat_natCast
attribute [go_sem] Int.natCast_nonneg Nat.add_assoc
attribute [go_sem] sz3 ag3
attribute [go_sem] zo3 sz4 ag4 bo4 sz5 ag5
attribute [go_sem] sz9 ag9 sq9 ls9
attribute [go_sem] us9
attribute [go_sem] sz22 ag22
attribute [go_sem] sq22 el22 es22 et22 ln22
attribute [go_sem] sz24 ag24
attribute [go_sem] fd24_0 fd24_1
attribute [go_sem] fd24_2 sz25 ag25 el25
attribute [go_sem] es25 ln25
attribute [go_sem] sz27 ag27
attribute [go_sem] zo27 fd27_0 fd27_1
attribute [go_sem] fd27_2 fd27_3
attribute [go_sem] sz41
attribute [go_sem] ag41 sq41 el41 es41 et41 ln41
attribute [go_sem] la41
attribute [go_sem] sz56 ag56 zo56 st56 fd56_0
attribute [go_sem] fd56_1 fd56_2
attribute [go_sem] zo59 st59 pl59_0 fd59_0
attribute [go_sem] sq63 el63 es63 et63 ln63
attribute [go_sem] sz64 ag64 sq64 el64 es64
attribute [go_sem] et64 ln64
attribute [go_sem] sz66 ag66 zo66 st66 pl66_0 fd66_0
attribute [go_sem] pl66_1 fd66_1 pl66_2 fd66_2
attribute [go_sem] el77 es77 et77 ln77
attribute [go_sem] sz86 ag86
attribute [go_sem] sq105 el105 es105 et105 la105
attribute [go_sem] sz107 ag107
end Go.Proofs.YtemjeommnpocnaaGreat
