/- The lemmas by which the conditions are reckoned, tagged. No condition. -/
import Derived.Test.YtafipfdohicfbaaGreatT
namespace Go.Proofs.YtafipfdohicfbaaGreat
open Go Go.Iso Go.Proofs
attribute [go_sem ↓] Later_apply vc_skip vc_region vc_seq vc_cond vc_block vc_exit vc_ret
attribute [go_sem ↓] vc_loop loopV_zero loopV_one loopV_two loopV_three thenQ_normal thenQ_ret thenQ_exit
attribute [go_sem ↓] blockQ_normal blockQ_ret blockQ_exit retQ_normal retQ_ret resK_nil resK_one resK_two
attribute [go_sem ↓] resK_three oneR_tmp oneR_cell vcOps_nil vcOps_cons vcOps_guard wv_move wv_nilCheck
attribute [go_sem ↓] wv_assign wv_pick wv_load wv_fieldAddr wv_field wv_indexAddr wv_binOp wv_unOp
attribute [go_sem ↓] wv_convert wv_copy wv_extract wv_makeFunc wv_index wv_len wv_min wv_max
attribute [go_sem ↓] wv_call_t wv_call_f wv_store wv_alloc wv_box wv_build wv_slice wv_buildSlice
attribute [go_sem ↓] wv_makeSlice wv_append del_at hpA_at endH_nil endH_cons updH_nil updH_cons
attribute [go_sem ↓] inH_nil inH_cons mkR_eq hpO_at okR_cons okR_nil inR_cons inR_nil
attribute [go_sem ↓] rangeB_zero rangeB_succ roundC_eq guardV_list dstL_zero dstL_succ slotV_some evO_tmp
attribute [go_sem ↓] evO_const evO_func putF_at putF_none upd_at argF_at mkS_eq frL_cons
attribute [go_sem ↓] frL_nil hpL_cons hpL_nil okF_cons okF_nil okH_cons okH_nil okRows_cons
attribute [go_sem ↓] okRows_nil refs_d refs_any refs_iptr refs_ptr refs_msl refs_agg refs_tup
attribute [go_sem ↓] refs_fn refsL_nil refsL_cons refsL_data LoopQ List.length_cons List.length_nil List.getElem?_cons_zero
attribute [go_sem ↓] List.getElem?_cons_succ List.drop_succ_cons List.drop_zero
attribute [go_sem] splitK_true splitK_false condK_val guardK_t guardK_f guardK_tup pickK_val numK_eq
attribute [go_sem] moveK_eq optK_some' loadK_iptr loadK_ptr ldV_t ldV_f fldK_iptr fldK_ptr
attribute [go_sem] partK_agg idxK_sl idxK_msl valK_val bopV_val uopV_val cvV_val cnvK_int
attribute [go_sem] cnvW_d cnvW_ne cnvK_str extK_tup strK_val mmV_f mmV_t storeK_ptr
attribute [go_sem] rowK_eq boxK_agg boxK_d allocK_some constV_int constV_bool constV_string constV_slice
attribute [go_sem] constV_nilFunc constV_pointer constV_map constV_agg constC_int constC_bool constC_string constC_slice
attribute [go_sem] constC_nilFunc constC_pointer constC_map toRow_agg toRow_d toRow_ptr toRow_msl toRow_fn
attribute [go_sem] one_d one_ptr one_msl one_fn rowOk_agg rowOk_d rowOk_ptr rowOk_msl
attribute [go_sem] rowOk_fn bop_add bop_sub bop_mul bop_eql bop_neq bop_lss bop_leq
attribute [go_sem] bop_gtr bop_geq bop_str_eql bop_str_neq bop_str_lss bop_str_leq bop_str_gtr bop_str_geq
attribute [go_sem] bop_bool_eql bop_bool_neq uop_not uop_neg bop_shr1 join_some inO_none inO_some
attribute [go_sem] accV_nil accO_nil renV_acc refs_acc inO_acc renRows_data List.nodup_cons List.nodup_nil
attribute [go_sem] not_false_eq_true or_self renRow_nil renRow_cons renRows_nil renRows_cons renV_any renV_d
attribute [go_sem] renV_iptr renV_ptr renV_msl renV_agg renV_tup renV_fn renRow_data List.getD_cons_zero
attribute [go_sem] List.getD_cons_succ strAt_nat putRow bldK_some stepB_some bldV_nil bldV_cons optBind_some
attribute [go_sem] asDs_nil asDs_cons asDs_data asDs_msl asDs_ptr asDs_fn asRows_nil asRows_cons
attribute [go_sem] asRowsC_some asRowsC_none asRowsC_none' bsK_some bsF_some bsF_draw bsF_one bsF_zero
attribute [go_sem] bsF_none inOrder_nil inOrder_cons cutK_str cutK_sl sliceK_map nilK_ptr nilK_iptr
attribute [go_sem] boundV_none boundV_some intOfV_int beq_self_eq_true Bool.and_self Bool.and_true Bool.true_and ldV_node
attribute [go_sem] ldV_cert ldV_proof ldV_pair ldV_pair0 ldV_pair1 ldV_pair2 all_one List.map_drop
attribute [go_sem] ldV_step NodeA.enc_mk CertA.enc_mk ProofA.enc_mk RatA.enc MonoA.enc PolyA.enc SquareA.enc
attribute [go_sem] NodeA.enc_len CertA.enc_len ProofA.enc_len PairA.enc_len StepA.enc_len List.map_cons List.map_nil List.map_append
attribute [go_sem] List.cons_append List.nil_append List.append_nil List.length_map List.drop_nil List.take_succ_cons List.take_zero List.take_nil
attribute [go_sem] List.head?_cons List.getElem?_nil List.getElem?_map List.set_cons_zero List.set_cons_succ Option.getD_some Option.getD_none Option.map_some
attribute [go_sem] true_and and_true and_self Bool.false_eq_true Bool.true_eq_false Bool.not_true Bool.not_false List.mem_cons
attribute [go_sem] List.not_mem_nil or_false forall_eq forall_eq_or_imp Nat.zero_add Nat.add_zero Nat.le_refl Int.toNat_natCast
attribute [go_sem] Int.natCast_nonneg Nat.add_assoc
attribute [go_sem] sz1 ag1 zo1 sz2 ag2 zo2 sz3 ag3
attribute [go_sem] zo3 sz4 ag4 zo4 bo4 sz5 ag5 zo5
attribute [go_sem] sz6 ag6 zo6 sz7 ag7 zo7 st7 pl7_0
attribute [go_sem] fd7_0 pt7_0 pl7_1 fd7_1 pt7_1 pl7_2 fd7_2 pt7_2
attribute [go_sem] pl7_3 fd7_3 pt7_3 sz8 ag8 zo8 st8 pl8_0
attribute [go_sem] fd8_0 pt8_0 pl8_1 fd8_1 pt8_1 pl8_2 fd8_2 pt8_2
attribute [go_sem] pl8_3 fd8_3 pt8_3 sz9 ag9 zo9 sq9 ls9
attribute [go_sem] us9 sz10 ag10 zo10 sq10 ls10 us10 sz11
attribute [go_sem] ag11 zo11 sq11 ls11 us11 sz12 ag12 zo12
attribute [go_sem] sz13 ag13 zo13 st13 pl13_0 fd13_0 pt13_0 pl13_1
attribute [go_sem] fd13_1 pt13_1 sz14 ag14 zo14 st14 pl14_0 fd14_0
attribute [go_sem] pt14_0 pl14_1 fd14_1 pt14_1 sz15 ag15 zo15 sz16
attribute [go_sem] ag16 zo16 sz17 ag17 zo17 sz18 ag18 zo18
attribute [go_sem] st18 pl18_0 fd18_0 pt18_0 sz19 ag19 zo19 st19
attribute [go_sem] pl19_0 fd19_0 pt19_0 sz21 ag21 zo21 sz22 ag22
attribute [go_sem] zo22 sz23 ag23 zo23 sq23 el23 es23 et23
attribute [go_sem] ln23 lz23 lm23 la23 sz24 ag24 zo24 sz25
attribute [go_sem] ag25 zo25 sz26 ag26 zo26 sq26 el26 es26
attribute [go_sem] et26 ln26 lz26 lm26 la26 sz27 ag27 zo27
attribute [go_sem] st27 pl27_0 fd27_0 pt27_0 pl27_1 fd27_1 pt27_1 pl27_2
attribute [go_sem] fd27_2 pt27_2 sz28 ag28 zo28 st28 pl28_0 fd28_0
attribute [go_sem] pt28_0 pl28_1 fd28_1 pt28_1 pl28_2 fd28_2 pt28_2 sz29
attribute [go_sem] ag29 zo29 sq29 el29 es29 et29 ln29 lz29
attribute [go_sem] lm29 la29 sz30 ag30 zo30 st30 pl30_0 fd30_0
attribute [go_sem] pt30_0 pl30_1 fd30_1 pt30_1 pl30_2 fd30_2 pt30_2 pl30_3
attribute [go_sem] fd30_3 pt30_3 sz31 ag31 zo31 st31 pl31_0 fd31_0
attribute [go_sem] pt31_0 pl31_1 fd31_1 pt31_1 pl31_2 fd31_2 pt31_2 pl31_3
attribute [go_sem] fd31_3 pt31_3 sz32 ag32 zo32 sz33 ag33 zo33
attribute [go_sem] sz35 ag35 zo35 sz36 ag36 zo36 sz37 ag37
attribute [go_sem] zo37 sz39 ag39 zo39 sz40 ag40 zo40 sz42
attribute [go_sem] ag42 zo42 sz43 ag43 zo43 sz44 ag44 zo44
attribute [go_sem] sz45 ag45 zo45 sz47 ag47 zo47 sz48 ag48
attribute [go_sem] zo48 sz49 ag49 zo49 sq49 el49 es49 et49
attribute [go_sem] ln49 lz49 lm49 la49 sz50 ag50 zo50 sz51
attribute [go_sem] ag51 zo51 sz52 ag52 zo52 sz53 ag53 zo53
attribute [go_sem] sz54 ag54 zo54 sz55 ag55 zo55 sz56 ag56
attribute [go_sem] zo56 sz57 ag57 zo57 sz58 ag58 zo58 st58
attribute [go_sem] pl58_0 fd58_0 pt58_0 pl58_1 fd58_1 pt58_1 pl58_2 fd58_2
attribute [go_sem] pt58_2 sz59 ag59 zo59 st59 pl59_0 fd59_0 pt59_0
attribute [go_sem] pl59_1 fd59_1 pt59_1 pl59_2 fd59_2 pt59_2 sz60 ag60
attribute [go_sem] zo60 sz61 ag61 zo61 st61 pl61_0 fd61_0 pt61_0
attribute [go_sem] sz62 ag62 zo62 st62 pl62_0 fd62_0 pt62_0 sz63
attribute [go_sem] ag63 zo63 sz64 ag64 zo64 sz65 ag65 zo65
attribute [go_sem] sq65 el65 es65 et65 ln65 lz65 lm65 la65
attribute [go_sem] sz66 ag66 zo66 sq66 el66 es66 et66 ln66
attribute [go_sem] lz66 lm66 la66 sz67 ag67 zo67 st67 pl67_0
attribute [go_sem] fd67_0 pt67_0 pl67_1 fd67_1 pt67_1 pl67_2 fd67_2 pt67_2
attribute [go_sem] sz68 ag68 zo68 st68 pl68_0 fd68_0 pt68_0 pl68_1
attribute [go_sem] fd68_1 pt68_1 pl68_2 fd68_2 pt68_2 sz69 ag69 zo69
attribute [go_sem] sz70 ag70 zo70 sz71 ag71 zo71 sz72 ag72
attribute [go_sem] zo72 st72 pl72_0 fd72_0 pt72_0 pl72_1 fd72_1 pt72_1
attribute [go_sem] pl72_2 fd72_2 pt72_2 pl72_3 fd72_3 pt72_3 sz73 ag73
attribute [go_sem] zo73 st73 pl73_0 fd73_0 pt73_0 pl73_1 fd73_1 pt73_1
attribute [go_sem] pl73_2 fd73_2 pt73_2 pl73_3 fd73_3 pt73_3 sz74 ag74
attribute [go_sem] zo74 st74 pl74_0 fd74_0 pt74_0 pl74_1 fd74_1 pt74_1
attribute [go_sem] pl74_2 fd74_2 pt74_2 pl74_3 fd74_3 pt74_3 pl74_4 fd74_4
attribute [go_sem] pt74_4 sz75 ag75 zo75 st75 pl75_0 fd75_0 pt75_0
attribute [go_sem] pl75_1 fd75_1 pt75_1 pl75_2 fd75_2 pt75_2 pl75_3 fd75_3
attribute [go_sem] pt75_3 pl75_4 fd75_4 pt75_4 sz76 ag76 zo76 sz77
attribute [go_sem] ag77 zo77 sz78 ag78 zo78 sz79 ag79 zo79
attribute [go_sem] sz80 ag80 zo80 sz81 ag81 zo81 sz82 ag82
attribute [go_sem] zo82 sz83 ag83 zo83 sz84 ag84 zo84 sz85
attribute [go_sem] ag85 zo85 sz86 ag86 zo86 sz87 ag87 zo87
attribute [go_sem] st87 pl87_0 fd87_0 pt87_0 pl87_1 fd87_1 pt87_1 sz88
attribute [go_sem] ag88 zo88 st88 pl88_0 fd88_0 pt88_0 pl88_1 fd88_1
attribute [go_sem] pt88_1 sz90 ag90 zo90 sz91 ag91 zo91 sz92
attribute [go_sem] ag92 zo92 st92 pl92_0 fd92_0 pt92_0 pl92_1 fd92_1
attribute [go_sem] pt92_1 pl92_2 fd92_2 pt92_2 sz93 ag93 zo93 st93
attribute [go_sem] pl93_0 fd93_0 pt93_0 pl93_1 fd93_1 pt93_1 pl93_2 fd93_2
attribute [go_sem] pt93_2 sz95 ag95 zo95 sz96 ag96 zo96 sz97
attribute [go_sem] ag97 zo97 sz98 ag98 zo98 sz99 ag99 zo99
attribute [go_sem] sz100 ag100 zo100 sz101 ag101 zo101 sz102 ag102
attribute [go_sem] zo102 sz104 ag104 zo104 sz105 ag105 zo105 sz106
attribute [go_sem] ag106 zo106 sz107 ag107 zo107 sz108 ag108 zo108
attribute [go_sem] sz109 ag109 zo109 sz110 ag110 zo110 sz111 ag111
attribute [go_sem] zo111 sz112 ag112 zo112 sz113 ag113 zo113 sz114
attribute [go_sem] ag114 zo114 sz115 ag115 zo115 sz116 ag116 zo116
attribute [go_sem] sz117 ag117 zo117 sq117 el117 es117 et117 ln117
attribute [go_sem] lz117 lm117 la117 sz118 ag118 zo118 sz119 ag119
attribute [go_sem] zo119 sz121 ag121 zo121 sz123 ag123 zo123 sz124
attribute [go_sem] ag124 zo124 sz125 ag125 zo125 sz126 ag126 zo126
attribute [go_sem] sz127 ag127 zo127 sz128 ag128 zo128 sz129 ag129
attribute [go_sem] zo129 sz130 ag130 zo130 sz131 ag131 zo131 sz132
attribute [go_sem] ag132 zo132 sz134 ag134 zo134 sz135 ag135 zo135
attribute [go_sem] sz136 ag136 zo136 sz137 ag137 zo137 sz138 ag138
attribute [go_sem] zo138 sz139 ag139 zo139 sz141 ag141 zo141 sz142
attribute [go_sem] ag142 zo142 sz144 ag144 zo144 sz146 ag146 zo146
attribute [go_sem] sz147 ag147 zo147 sz148 ag148 zo148 sz149 ag149
attribute [go_sem] zo149 sz150 ag150 zo150 sz151 ag151 zo151 sz152
attribute [go_sem] ag152 zo152 sz153 ag153 zo153 sz154 ag154 zo154
attribute [go_sem] sz155 ag155 zo155 sz157 ag157 zo157 sz159 ag159
attribute [go_sem] zo159 sz161 ag161 zo161 sz163 ag163 zo163 sz164
attribute [go_sem] ag164 zo164 sz166 ag166 zo166 sz167 ag167 zo167
attribute [go_sem] sz168 ag168 zo168 sz169 ag169 zo169 st169 pl169_0
attribute [go_sem] fd169_0 pt169_0 pl169_1 fd169_1 pt169_1 pl169_2 fd169_2 pt169_2
attribute [go_sem] pl169_3 fd169_3 pt169_3 sz170 ag170 zo170 st170 pl170_0
attribute [go_sem] fd170_0 pt170_0 pl170_1 fd170_1 pt170_1 pl170_2 fd170_2 pt170_2
attribute [go_sem] pl170_3 fd170_3 pt170_3 sz171 ag171 sz172 ag172 st172
attribute [go_sem] pl172_0 sz173 ag173 st173 pl173_0 sz174 ag174 zo174
attribute [go_sem] sz175 ag175 zo175 sz176 ag176 zo176 sz177 ag177
attribute [go_sem] zo177 sz178 ag178 zo178 sz179 ag179 zo179 sz180
attribute [go_sem] ag180 zo180 sz181 ag181 zo181 st181 pl181_0 fd181_0
attribute [go_sem] pt181_0 pl181_1 fd181_1 pt181_1 pl181_2 fd181_2 pt181_2 pl181_3
attribute [go_sem] fd181_3 pt181_3 pl181_4 fd181_4 pt181_4 pl181_5 fd181_5 pt181_5
attribute [go_sem] pl181_6 fd181_6 pt181_6 pl181_7 fd181_7 pt181_7 pl181_8 fd181_8
attribute [go_sem] pt181_8 pl181_9 fd181_9 pt181_9 pl181_10 fd181_10 pt181_10 sz182
attribute [go_sem] ag182 zo182 st182 pl182_0 fd182_0 pt182_0 pl182_1 fd182_1
attribute [go_sem] pt182_1 pl182_2 fd182_2 pt182_2 pl182_3 fd182_3 pt182_3 pl182_4
attribute [go_sem] fd182_4 pt182_4 pl182_5 fd182_5 pt182_5 pl182_6 fd182_6 pt182_6
attribute [go_sem] pl182_7 fd182_7 pt182_7 pl182_8 fd182_8 pt182_8 pl182_9 fd182_9
attribute [go_sem] pt182_9 pl182_10 fd182_10 pt182_10 sz183 ag183 zo183
end Go.Proofs.YtafipfdohicfbaaGreat
