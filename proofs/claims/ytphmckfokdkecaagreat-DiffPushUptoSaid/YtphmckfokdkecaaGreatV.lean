/- The lemmas by which the conditions are reckoned, tagged. No condition. -/
import Derived.Test.YtphmckfokdkecaaGreatT
namespace Go.Proofs.YtphmckfokdkecaaGreat
open Go Go.Iso Go.Proofs
attribute [go_sem ↓] Later_apply vc_skip vc_region vc_seq vc_cond vc_block vc_exit vc_ret
attribute [go_sem ↓] vc_loop loopV_zero loopV_one loopV_two loopV_three thenQ_normal thenQ_ret thenQ_exit
attribute [go_sem ↓] blockQ_normal blockQ_ret blockQ_exit retQ_normal retQ_ret resK_nil resK_one resK_two
attribute [go_sem ↓] resK_three oneR_tmp oneR_cell vcOps_nil vcOps_cons vcOps_guard wv_move wv_nilCheck
attribute [go_sem ↓] wv_assign wv_pick wv_load wv_fieldAddr wv_field wv_indexAddr wv_binOp wv_unOp
attribute [go_sem ↓] wv_convert wv_copy wv_extract wv_makeFunc wv_index wv_len wv_min wv_max
attribute [go_sem ↓] wv_call_t wv_call_f wv_store wv_alloc wv_box wv_build wv_slice wv_buildSlice
attribute [go_sem ↓] wv_makeSlice wv_append del_at hpA_at endH_nil endH_cons updH_nil updH_cons
attribute [go_sem ↓] inH_nil inH_cons mkR_eq hpO_at okR_cons okR_nil inR_cons inR_nil
attribute [go_sem ↓] rangeB_zero rangeB_succ roundC_eq guardV_list dstL_zero dstL_succ slotV_some evO_tmp
attribute [go_sem ↓] evO_const evO_func putF_at putF_none upd_at argF_at mkS_eq frL_cons
attribute [go_sem ↓] frL_nil hpL_cons hpL_nil okF_cons okF_nil okH_cons okH_nil okRows_cons
attribute [go_sem ↓] okRows_nil refs_d refs_any refs_iptr refs_ptr refs_msl refs_agg refs_tup
attribute [go_sem ↓] refs_fn refsL_nil refsL_cons refsL_data LoopQ List.length_cons List.length_nil List.getElem?_cons_zero
attribute [go_sem ↓] List.getElem?_cons_succ List.drop_succ_cons List.drop_zero
attribute [go_sem] splitK_true splitK_false condK_val guardK_t guardK_f guardK_tup pickK_val numK_eq
attribute [go_sem] moveK_eq optK_some' loadK_iptr loadK_ptr ldV_t ldV_f fldK_iptr fldK_ptr
attribute [go_sem] partK_agg idxK_sl idxK_msl valK_val bopV_val uopV_val cvV_val cnvK_int
attribute [go_sem] cnvK_str extK_tup strK_val mmV_f mmV_t storeK_ptr rowK_eq boxK_agg
attribute [go_sem] boxK_d allocK_some constV_int constV_bool constV_string constV_slice constV_nilFunc constV_pointer
attribute [go_sem] constV_map constV_agg constC_int constC_bool constC_string constC_slice constC_nilFunc constC_pointer
attribute [go_sem] constC_map toRow_agg toRow_d toRow_ptr toRow_msl toRow_fn one_d one_ptr
attribute [go_sem] one_msl one_fn rowOk_agg rowOk_d rowOk_ptr rowOk_msl rowOk_fn bop_add
attribute [go_sem] bop_sub bop_mul bop_eql bop_neq bop_lss bop_leq bop_gtr bop_geq
attribute [go_sem] bop_str_eql bop_str_neq bop_str_lss bop_str_leq bop_str_gtr bop_str_geq bop_bool_eql bop_bool_neq
attribute [go_sem] uop_not uop_neg bop_shr1 join_some inO_none inO_some accV_nil accO_nil
attribute [go_sem] renV_acc refs_acc inO_acc renRows_data List.nodup_cons List.nodup_nil not_false_eq_true or_self
attribute [go_sem] renRow_nil renRow_cons renRows_nil renRows_cons renV_any renV_d renV_iptr renV_ptr
attribute [go_sem] renV_msl renV_agg renV_tup renV_fn renRow_data List.getD_cons_zero List.getD_cons_succ strAt_nat
attribute [go_sem] putRow bldK_some stepB_some bldV_nil bldV_cons optBind_some asDs_nil asDs_cons
attribute [go_sem] asDs_data asDs_msl asDs_ptr asDs_fn asRows_nil asRows_cons asRowsC_some asRowsC_none
attribute [go_sem] asRowsC_none' bsK_some bsF_some bsF_zero bsF_none inOrder_nil inOrder_cons cutK_str
attribute [go_sem] cutK_sl sliceK_map nilK_ptr nilK_iptr boundV_none boundV_some intOfV_int beq_self_eq_true
attribute [go_sem] Bool.and_self Bool.and_true Bool.true_and ldV_node ldV_cert ldV_proof ldV_pair ldV_pair0
attribute [go_sem] ldV_pair1 ldV_pair2 all_one List.map_drop ldV_step NodeA.enc_mk CertA.enc_mk ProofA.enc_mk
attribute [go_sem] RatA.enc MonoA.enc PolyA.enc SquareA.enc NodeA.enc_len CertA.enc_len ProofA.enc_len PairA.enc_len
attribute [go_sem] StepA.enc_len List.map_cons List.map_nil List.map_append List.cons_append List.nil_append List.append_nil List.length_map
attribute [go_sem] List.drop_nil List.take_succ_cons List.take_zero List.take_nil List.head?_cons List.getElem?_nil List.getElem?_map List.set_cons_zero
attribute [go_sem] List.set_cons_succ Option.getD_some Option.getD_none Option.map_some true_and and_true and_self Bool.false_eq_true
attribute [go_sem] Bool.true_eq_false Bool.not_true Bool.not_false List.mem_cons List.not_mem_nil or_false forall_eq forall_eq_or_imp
attribute [go_sem] Nat.zero_add Nat.add_zero Nat.le_refl Int.toNat_natCast Int.natCast_nonneg Nat.add_assoc
attribute [go_sem] sz1 ag1 zo1 sz2 ag2 zo2 sz3 ag3
attribute [go_sem] zo3 sz4 ag4 zo4 bo4 sz5 ag5 zo5
attribute [go_sem] sz6 ag6 zo6 sz7 ag7 zo7 st7 pl7_0
attribute [go_sem] fd7_0 pt7_0 pl7_1 fd7_1 pt7_1 pl7_2 fd7_2 pt7_2
attribute [go_sem] pl7_3 fd7_3 pt7_3 sz8 ag8 zo8 st8 pl8_0
attribute [go_sem] fd8_0 pt8_0 pl8_1 fd8_1 pt8_1 pl8_2 fd8_2 pt8_2
attribute [go_sem] pl8_3 fd8_3 pt8_3 sz9 ag9 zo9 sq9 ls9
attribute [go_sem] us9 sz10 ag10 zo10 sq10 ls10 us10 sz11
attribute [go_sem] ag11 zo11 sq11 ls11 us11 sz12 ag12 zo12
attribute [go_sem] sz13 ag13 zo13 st13 pl13_0 fd13_0 pt13_0 pl13_1
attribute [go_sem] fd13_1 pt13_1 sz14 ag14 zo14 st14 pl14_0 fd14_0
attribute [go_sem] pt14_0 pl14_1 fd14_1 pt14_1 sz15 ag15 zo15 sz16
attribute [go_sem] ag16 zo16 sz17 ag17 zo17 sz18 ag18 zo18
attribute [go_sem] st18 pl18_0 fd18_0 pt18_0 sz19 ag19 zo19 st19
attribute [go_sem] pl19_0 fd19_0 pt19_0 sz21 ag21 zo21 sz22 ag22
attribute [go_sem] zo22 sq22 el22 es22 et22 ln22 lz22 lm22
attribute [go_sem] la22 sz23 ag23 zo23 st23 pl23_0 fd23_0 pt23_0
attribute [go_sem] pl23_1 fd23_1 pt23_1 pl23_2 fd23_2 pt23_2 sz24 ag24
attribute [go_sem] zo24 st24 pl24_0 fd24_0 pt24_0 pl24_1 fd24_1 pt24_1
attribute [go_sem] pl24_2 fd24_2 pt24_2 sz25 ag25 zo25 sq25 el25
attribute [go_sem] es25 et25 ln25 lz25 lm25 la25 sz26 ag26
attribute [go_sem] zo26 st26 pl26_0 fd26_0 pt26_0 pl26_1 fd26_1 pt26_1
attribute [go_sem] pl26_2 fd26_2 pt26_2 pl26_3 fd26_3 pt26_3 sz27 ag27
attribute [go_sem] zo27 st27 pl27_0 fd27_0 pt27_0 pl27_1 fd27_1 pt27_1
attribute [go_sem] pl27_2 fd27_2 pt27_2 pl27_3 fd27_3 pt27_3 sz28 ag28
attribute [go_sem] zo28 sz29 ag29 zo29 sz30 ag30 zo30 sz32
attribute [go_sem] ag32 zo32 sz33 ag33 zo33 sz34 ag34 zo34
attribute [go_sem] sz35 ag35 zo35 sz36 ag36 zo36 sz37 ag37
attribute [go_sem] zo37 sq37 el37 es37 et37 ln37 lz37 lm37
attribute [go_sem] la37 sz38 ag38 zo38 st38 pl38_0 fd38_0 pt38_0
attribute [go_sem] pl38_1 fd38_1 pt38_1 sz39 ag39 zo39 st39 pl39_0
attribute [go_sem] fd39_0 pt39_0 pl39_1 fd39_1 pt39_1 sz41 ag41 zo41
attribute [go_sem] sz42 ag42 zo42 sq42 el42 es42 et42 ln42
attribute [go_sem] lz42 lm42 la42 sz43 ag43 zo43 sz44 ag44
attribute [go_sem] zo44 sq44 el44 es44 et44 ln44 lz44 lm44
attribute [go_sem] la44 sz45 ag45 zo45 st45 pl45_0 fd45_0 pt45_0
attribute [go_sem] pl45_1 fd45_1 pt45_1 sz46 ag46 zo46 st46 pl46_0
attribute [go_sem] fd46_0 pt46_0 pl46_1 fd46_1 pt46_1 sz47 ag47 zo47
attribute [go_sem] sq47 el47 es47 et47 ln47 lz47 lm47 la47
attribute [go_sem] sz48 ag48 zo48 st48 pl48_0 fd48_0 pt48_0 pl48_1
attribute [go_sem] fd48_1 pt48_1 pl48_2 fd48_2 pt48_2 sz49 ag49 zo49
attribute [go_sem] st49 pl49_0 fd49_0 pt49_0 pl49_1 fd49_1 pt49_1 pl49_2
attribute [go_sem] fd49_2 pt49_2 sz50 ag50 zo50 sz51 ag51 zo51
attribute [go_sem] sz52 ag52 zo52 sz54 ag54 zo54 sz56 ag56
attribute [go_sem] zo56 sz57 ag57 zo57 sz58 ag58 zo58 sz59
attribute [go_sem] ag59 zo59 sz60 ag60 zo60 sz61 ag61 zo61
attribute [go_sem] sz62 ag62 zo62 sz63 ag63 zo63 sz64 ag64
attribute [go_sem] zo64 sz65 ag65 zo65 sz66 ag66 zo66 sz67
attribute [go_sem] ag67 zo67 sz68 ag68 zo68 sz69 ag69 zo69
attribute [go_sem] st69 pl69_0 fd69_0 pt69_0 pl69_1 fd69_1 pt69_1 sz70
attribute [go_sem] ag70 zo70 st70 pl70_0 fd70_0 pt70_0 pl70_1 fd70_1
attribute [go_sem] pt70_1 sz71 ag71 zo71 sz72 ag72 zo72 sz73
attribute [go_sem] ag73 zo73 sz74 ag74 zo74 st74 pl74_0 fd74_0
attribute [go_sem] pt74_0 pl74_1 fd74_1 pt74_1 sz75 ag75 zo75 st75
attribute [go_sem] pl75_0 fd75_0 pt75_0 pl75_1 fd75_1 pt75_1 sz76 ag76
attribute [go_sem] zo76 sz77 ag77 zo77 sz78 ag78 zo78 sz79
attribute [go_sem] ag79 zo79 sz80 ag80 zo80 sz81 ag81 zo81
attribute [go_sem] sz82 ag82 zo82 sz83 ag83 zo83 sz84 ag84
attribute [go_sem] zo84 sz85 ag85 zo85 st85 pl85_0 fd85_0 pt85_0
attribute [go_sem] pl85_1 fd85_1 pt85_1 pl85_2 fd85_2 pt85_2 sz86 ag86
attribute [go_sem] zo86 st86 pl86_0 fd86_0 pt86_0 pl86_1 fd86_1 pt86_1
attribute [go_sem] pl86_2 fd86_2 pt86_2 sz87 ag87 zo87 sz88 ag88
attribute [go_sem] zo88 sz89 ag89 zo89 sz90 ag90 zo90 sz91
attribute [go_sem] ag91 zo91 sz92 ag92 zo92 sz93 ag93 zo93
attribute [go_sem] sz94 ag94 zo94 sz95 ag95 zo95 sz96 ag96
attribute [go_sem] zo96 sz97 ag97 zo97 sz98 ag98 zo98 sz99
attribute [go_sem] ag99 zo99 sz100 ag100 zo100 sz101 ag101 zo101
attribute [go_sem] sz102 ag102 zo102 sz103 ag103 zo103 sz104 ag104
attribute [go_sem] zo104 sz105 ag105 zo105 sz106 ag106 zo106 sz107
attribute [go_sem] ag107 zo107 sz108 ag108 zo108 sz109 ag109 zo109
attribute [go_sem] sz110 ag110 zo110 sz111 ag111 zo111 sz113 ag113
attribute [go_sem] zo113 sz114 ag114 zo114 sz115 ag115 zo115 sz116
attribute [go_sem] ag116 zo116 sz117 ag117 zo117 sz118 ag118 zo118
attribute [go_sem] sz119 ag119 zo119 sz120 ag120 zo120 sz121 ag121
attribute [go_sem] zo121 sz122 ag122 zo122 sz123 ag123 zo123 sz124
attribute [go_sem] ag124 zo124 sz125 ag125 zo125 sz126 ag126 zo126
attribute [go_sem] sz127 ag127 zo127 sz128 ag128 zo128 sz129 ag129
attribute [go_sem] zo129 sz130 ag130 zo130 sz131 ag131 zo131 sz132
attribute [go_sem] ag132 zo132 sz133 ag133 zo133 sz134 ag134 zo134
attribute [go_sem] sz135 ag135 zo135 sz136 ag136 zo136 sz137 ag137
attribute [go_sem] zo137 sz139 ag139 zo139 sz140 ag140 zo140 sz141
attribute [go_sem] ag141 zo141 sz142 ag142 zo142 sz143 ag143 zo143
attribute [go_sem] sz144 ag144 zo144 sz145 ag145 zo145 sz147 ag147
attribute [go_sem] zo147 sz148 ag148 zo148 sz150 ag150 zo150 sz151
attribute [go_sem] ag151 zo151 sz152 ag152 zo152 sz153 ag153 zo153
attribute [go_sem] sz154 ag154 zo154 sz156 ag156 zo156 sz158 ag158
attribute [go_sem] zo158 sz160 ag160 zo160 sz161 ag161 zo161 sz162
attribute [go_sem] ag162 zo162 sz163 ag163 zo163 sz164 ag164 zo164
attribute [go_sem] sz165 ag165 zo165 sz166 ag166 zo166 sz167 ag167
attribute [go_sem] zo167 sz168 ag168 zo168 sz169 ag169 zo169 sz171
attribute [go_sem] ag171 zo171 sz172 ag172 zo172 sz173 ag173 zo173
attribute [go_sem] sz174 ag174 zo174 sz176 ag176 zo176 sz177 ag177
attribute [go_sem] zo177 sz178 ag178 zo178 sz179 ag179 zo179 sz180
attribute [go_sem] ag180 zo180 sz181 ag181 zo181 sz182 ag182 zo182
attribute [go_sem] sz183 ag183 zo183 sz184 ag184 zo184 sz185 ag185
attribute [go_sem] zo185 sz186 ag186 zo186 sz187 ag187 zo187 sz188
attribute [go_sem] ag188 zo188 sz189 ag189 zo189 sq189 el189 es189
attribute [go_sem] et189 ln189 lz189 lm189 la189 sz190 ag190 zo190
attribute [go_sem] sz191 ag191 zo191 sz192 ag192 zo192 st192 pl192_0
attribute [go_sem] fd192_0 pt192_0 pl192_1 fd192_1 pt192_1 pl192_2 fd192_2 pt192_2
attribute [go_sem] sz193 ag193 zo193 st193 pl193_0 fd193_0 pt193_0 pl193_1
attribute [go_sem] fd193_1 pt193_1 pl193_2 fd193_2 pt193_2 sz194 ag194 zo194
attribute [go_sem] sz195 ag195 zo195 sz196 ag196 zo196 sz197 ag197
attribute [go_sem] zo197 sz198 ag198 zo198 sz199 ag199 zo199 st199
attribute [go_sem] pl199_0 fd199_0 pt199_0 pl199_1 fd199_1 pt199_1 sz200 ag200
attribute [go_sem] zo200 st200 pl200_0 fd200_0 pt200_0 pl200_1 fd200_1 pt200_1
attribute [go_sem] sz201 ag201 zo201 sz203 ag203 zo203 sz204 ag204
attribute [go_sem] zo204 st204 pl204_0 fd204_0 pt204_0 sz205 ag205 zo205
attribute [go_sem] st205 pl205_0 fd205_0 pt205_0 sz206 ag206 zo206 sz207
attribute [go_sem] ag207 zo207 sz208 ag208 zo208 sz210 ag210 zo210
attribute [go_sem] sz211 ag211 zo211 sz212 ag212 zo212 sz213 ag213
attribute [go_sem] zo213 sz214 ag214 zo214 sz215 ag215 zo215 sz216
attribute [go_sem] ag216 zo216 sz217 ag217 zo217 sz218 ag218 zo218
attribute [go_sem] sz219 ag219 zo219 sz220 ag220 zo220 st220 pl220_0
attribute [go_sem] fd220_0 pt220_0 pl220_1 fd220_1 pt220_1 pl220_2 fd220_2 pt220_2
attribute [go_sem] pl220_3 fd220_3 pt220_3 sz221 ag221 zo221 st221 pl221_0
attribute [go_sem] fd221_0 pt221_0 pl221_1 fd221_1 pt221_1 pl221_2 fd221_2 pt221_2
attribute [go_sem] pl221_3 fd221_3 pt221_3 sz222 ag222 sz223 ag223 st223
attribute [go_sem] pl223_0 sz224 ag224 st224 pl224_0 sz225 ag225 zo225
attribute [go_sem] sz226 ag226 zo226 sz227 ag227 zo227 sz228 ag228
attribute [go_sem] zo228 sz229 ag229 zo229 sz230 ag230 zo230 sz231
attribute [go_sem] ag231 zo231 st231 pl231_0 fd231_0 pt231_0 pl231_1 fd231_1
attribute [go_sem] pt231_1 pl231_2 fd231_2 pt231_2 pl231_3 fd231_3 pt231_3 pl231_4
attribute [go_sem] fd231_4 pt231_4 pl231_5 fd231_5 pt231_5 pl231_6 fd231_6 pt231_6
attribute [go_sem] pl231_7 fd231_7 pt231_7 pl231_8 fd231_8 pt231_8 pl231_9 fd231_9
attribute [go_sem] pt231_9 pl231_10 fd231_10 pt231_10 sz232 ag232 zo232 st232
attribute [go_sem] pl232_0 fd232_0 pt232_0 pl232_1 fd232_1 pt232_1 pl232_2 fd232_2
attribute [go_sem] pt232_2 pl232_3 fd232_3 pt232_3 pl232_4 fd232_4 pt232_4 pl232_5
attribute [go_sem] fd232_5 pt232_5 pl232_6 fd232_6 pt232_6 pl232_7 fd232_7 pt232_7
attribute [go_sem] pl232_8 fd232_8 pt232_8 pl232_9 fd232_9 pt232_9 pl232_10 fd232_10
attribute [go_sem] pt232_10 sz233 ag233 zo233 st233 pl233_0 fd233_0 pt233_0
attribute [go_sem] pl233_1 fd233_1 pt233_1 sz234 ag234 zo234 st234 pl234_0
attribute [go_sem] fd234_0 pt234_0 pl234_1 fd234_1 pt234_1
end Go.Proofs.YtphmckfokdkecaaGreat
