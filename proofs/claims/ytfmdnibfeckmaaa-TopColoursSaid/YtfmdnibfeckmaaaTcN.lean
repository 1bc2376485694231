/- What colour.Between makes of the known spaces' primaries, number by number. No condition. -/
import Derived.Test.YtfmdnibfeckmaaaTcL
namespace Go.Proofs.Ytfmdnibfeckmaaa
open Go Go.RowKit
def rowL (l : List Nat) : Nat → Nat := fun i => l.getD i 0
def ikN : Nat → Nat := rowL [4607065261307830833, 13817838245100677764, 4594931282197943235, 4601459339324452246, 4602844193796749817, 4587264435660180050, 13799442099032979528, 4585931599809560827, 4606898572189800603]
theorem ik_n : ∀ i, i < 9 → invF kM i = ikN i := by decide +kernel
theorem ik_e : invE kM = 0 := by decide +kernel
def prU : Nat → Nat := rowL [1059313418, 1051260355, 1050253722, 1058642330, 1041865114, 1031127695, 1050679863, 1051226800]
def colU : Nat → Nat := rowL [4611413072453132227, 4602678819172646912, 4612811918683755869, 4607182418800017408, 4607182418800017408, 4607182418800017408, 4591215111030249286, 4595172817407603238, 4623601792563806211]
def ivU : Nat → Nat := rowL [4604382591153856196, 13822932701740832704, 13815676299924032542, 13827790801470442617, 4608720998077893963, 4584223108865082441, 4571280225265441401, 13803014367223197013, 4590162791205092107]
def ttU : Nat → Nat := rowL [4596829148583829086, 4604616886124941097, 4589866425477188098]
def xyU : Nat → Nat := rowL [4601100592347121176, 4600113286497570601, 4595670526711793105, 4596829148583829086, 4604616886124941097, 4589866425477188098, 4581228951076273872, 4593253306023133543, 4606736852609661268]
def xiU : Nat → Nat := rowL [4614480434286279809, 13832974614437094401, 13826025830180053880, 13830277427980570370, 4611127426168879546, 4586149539495655015, 4588177953566142075, 13819889097793614621, 4607438995375678365]
theorem preU : prE prU = 0 := by decide +kernel
theorem spoU : spoE (prU 6) (prU 7) = 0 := by decide +kernel
theorem col_U : ∀ i, i < 9 → colM prU i = colU i := by decide +kernel
theorem iv_U : ∀ i, i < 9 → invF colU i = ivU i := by decide +kernel
theorem ive_U : invE colU = 0 := by decide +kernel
theorem tt_U : ∀ i, i < 3 → tmF ivU (whiV prU) i = ttU i := by decide +kernel
theorem xyn_U : ∀ i, i < 9 → fop .mul .f64 (colU i) (ttU (i % 3)) = xyU i := by decide +kernel
theorem xi_U : ∀ i, i < 9 → invF xyU i = xiU i := by decide +kernel
theorem xie_U : invE xyU = 0 := by decide +kernel
theorem xyE_U : xyE prU = 0 := by unfold xyE; rw [if_pos preU, invE_congr col_U]; exact ive_U
theorem xyF_U : ∀ i, i < 9 → xyF prU i = xyU i := fun i hi => by
  unfold xyF
  rw [invF_congr col_U, col_U i hi, tm_congr (iv_U) (fun j _ => rfl) (show i % 3 < 3 by omega), tt_U _ (by omega)]; exact xyn_U i hi
def prS : Nat → Nat := rowL [1060538155, 1050018841, 1042871747, 1062501089, 1040388719, 1026832728, 1050981182, 1051517717]
def colS : Nat → Nat := rowL [4612662054284120323, 4596330371933772647, 4613733109513738462, 4607182418800017408, 4607182418800017408, 4607182418800017408, 13804931598491938730, 4573595346637126182, 4625990064962472596]
def ivS : Nat → Nat := rowL [4601719259014418226, 13814407847113794352, 13812674199425566479, 13825102633125321669, 4607582633799578912, 4577664835449034945, 4558943898408920063, 13780212562164373061, 4587808501434050542]
def ttS : Nat → Nat := rowL [4598575656885583087, 4604246808141364980, 4587898295832815921]
def xyS : Nat → Nat := rowL [4604142076550086619, 4593996030788400868, 4594795274986141341, 4598575656885583087, 4604246808141364980, 4587898295832815921, 13796449205529572642, 4571331738604844239, 4607228981900951042]
def xiS : Nat → Nat := rowL [4610069331249767731, 13822894792887446746, 13821058154730907893, 13827525000498543752, 4609953626211046192, 4580486912844985071, 4577910847742069353, 13799301324218237952, 4607077889084204854]
theorem preS : prE prS = 0 := by decide +kernel
theorem spoS : spoE (prS 6) (prS 7) = 0 := by decide +kernel
theorem col_S : ∀ i, i < 9 → colM prS i = colS i := by decide +kernel
theorem iv_S : ∀ i, i < 9 → invF colS i = ivS i := by decide +kernel
theorem ive_S : invE colS = 0 := by decide +kernel
theorem tt_S : ∀ i, i < 3 → tmF ivS (whiV prS) i = ttS i := by decide +kernel
theorem xyn_S : ∀ i, i < 9 → fop .mul .f64 (colS i) (ttS (i % 3)) = xyS i := by decide +kernel
theorem xi_S : ∀ i, i < 9 → invF xyS i = xiS i := by decide +kernel
theorem xie_S : invE xyS = 0 := by decide +kernel
theorem xyE_S : xyE prS = 0 := by unfold xyE; rw [if_pos preS, invE_congr col_S]; exact ive_S
theorem xyF_S : ∀ i, i < 9 → xyF prS i = xyS i := fun i hi => by
  unfold xyF
  rw [invF_congr col_S, col_S i hi, tm_congr (iv_S) (fun j _ => rfl) (show i % 3 < 3 by omega), tt_S _ (by omega)]; exact xyn_S i hi
def prC : Nat → Nat := rowL [1059984507, 1050924810, 1049079316, 1060152279, 1041865114, 1031127695, 1050723484, 1051964998]
def colC : Nat → Nat := rowL [4611967493561384964, 4600590192908934690, 4612811918683755869, 4607182418800017408, 4607182418800017408, 4607182418800017408, 0, 4589363830729109662, 4623601792563806211]
def ivC : Nat → Nat := rowL [4603317855980875320, 13820223671265774008, 13814680926283491899, 13826715492251892428, 4608170069945725686, 4580367513305955095, 4568699873084085237, 13796985100454968963, 4590131316454333301]
def ttC : Nat → Nat := rowL [4596715753648469702, 4604674771811133830, 4589630129858365002]
def xyC : Nat → Nat := rowL [4601691086874312639, 4598664029377114006, 4595375157169925281, 4596715753648469702, 4604674771811133830, 4589630129858365002, 0, 4586942965069352297, 4606347949397262956]
def xiC : Nat → Nat := rowL [4613319460064390816, 13830635533313802842, 13824972931864297035, 13828709492844792893, 4610288695645322097, 4582184830685746722, 4586104406600270352, 13814351517387773734, 4607636964903729582]
theorem preC : prE prC = 0 := by decide +kernel
theorem spoC : spoE (prC 6) (prC 7) = 0 := by decide +kernel
theorem col_C : ∀ i, i < 9 → colM prC i = colC i := by decide +kernel
theorem iv_C : ∀ i, i < 9 → invF colC i = ivC i := by decide +kernel
theorem ive_C : invE colC = 0 := by decide +kernel
theorem tt_C : ∀ i, i < 3 → tmF ivC (whiV prC) i = ttC i := by decide +kernel
theorem xyn_C : ∀ i, i < 9 → fop .mul .f64 (colC i) (ttC (i % 3)) = xyC i := by decide +kernel
theorem xi_C : ∀ i, i < 9 → invF xyC i = xiC i := by decide +kernel
theorem xie_C : invE xyC = 0 := by decide +kernel
theorem xyE_C : xyE prC = 0 := by unfold xyE; rw [if_pos preC, invE_congr col_C]; exact ive_C
theorem xyF_C : ∀ i, i < 9 → xyF prC i = xyC i := fun i hi => by
  unfold xyF
  rw [invF_congr col_C, col_C i hi, tm_congr (iv_C) (fun j _ => rfl) (show i % 3 < 3 by omega), tt_C _ (by omega)]; exact xyn_C i hi
def prW : Nat → Nat := rowL [1060454269, 1049985286, 1043207291, 1061947441, 1040590045, 1027369599, 1050679863, 1051226800]
def colW : Nat → Nat := rowL [4612642262297222676, 4596852958342321121, 4613595152905352384, 4607182418800017408, 4607182418800017408, 4607182418800017408, 0, 4586127950657547126, 4625729172163198604]
def ivW : Nat → Nat := rowL [4601795476323080299, 13814769143675356214, 13812832565769035125, 13825186357572560210, 4607614634485992401, 4577316587031181216, 4562466987943192248, 13791366933562989174, 4588212296225451267]
def ttW : Nat → Nat := rowL [4598404006289703312, 4604282083234589449, 4588707099108262654]
def xyW : Nat → Nat := rowL [4603912427800044577, 4594378393439366097, 4595252598561649665, 4598404006289703312, 4604282083234589449, 4588707099108262654, 0, 4583748626113904410, 4607457071117374400]
def xiW : Nat → Nat := rowL [4610409928554837723, 13823450851893189733, 13821607897651486711, 13827552215107792329, 4609958803510549461, 4580202193986171941, 4580741565192099760, 13809696754249418299, 4606660930016302315]
theorem preW : prE prW = 0 := by decide +kernel
theorem spoW : spoE (prW 6) (prW 7) = 0 := by decide +kernel
theorem col_W : ∀ i, i < 9 → colM prW i = colW i := by decide +kernel
theorem iv_W : ∀ i, i < 9 → invF colW i = ivW i := by decide +kernel
theorem ive_W : invE colW = 0 := by decide +kernel
theorem tt_W : ∀ i, i < 3 → tmF ivW (whiV prW) i = ttW i := by decide +kernel
theorem xyn_W : ∀ i, i < 9 → fop .mul .f64 (colW i) (ttW (i % 3)) = xyW i := by decide +kernel
theorem xi_W : ∀ i, i < 9 → invF xyW i = xiW i := by decide +kernel
theorem xie_W : invE xyW = 0 := by decide +kernel
theorem xyE_W : xyE prW = 0 := by unfold xyE; rw [if_pos preW, invE_congr col_W]; exact ive_W
theorem xyF_W : ∀ i, i < 9 → xyF prW i = xyW i := fun i hi => by
  unfold xyF
  rw [invF_congr col_W, col_W i hi, tm_congr (iv_W) (fun j _ => rfl) (show i % 3 < 3 by omega), tt_W _ (by omega)]; exact xyn_W i hi
def diCS : Nat → Nat := rowL [4607395426300656861, 0, 0, 0, 4606834981257214981, 0, 0, 0, 4607458995858662951]
def maCS : Nat → Nat := rowL [4607334076945866457, 13817633876422639577, 4595285218195465606, 4601827676384520425, 4602649372782794448, 4587700685993496460, 13799674632732173226, 4585709001736562890, 4607308356696567267]
def adCS : Nat → Nat := rowL [4607353158182999916, 4581849205233189212, 4568575539880366208, 4584977129334867193, 4606921015986772552, 13784971222245474752, 4569320686040715424, 13797894541380324144, 4607458246611541113]
theorem di_CS : ∀ i, i < 9 → diF (prC 6) (prC 7) (prS 6) (prS 7) i = diCS i := by decide +kernel
theorem ma_CS : ∀ i, i < 9 → mulF ikN diCS i = maCS i := by decide +kernel
theorem adn_CS : ∀ i, i < 9 → mulF maCS kM i = adCS i := by decide +kernel
theorem ad_CS : ∀ i, i < 9 → adF (prC 6) (prC 7) (prS 6) (prS 7) i = adCS i := fun i hi => by
  unfold adF
  rw [mul_congr (fun j hj => (mul_congr ik_n di_CS hj).trans (ma_CS j hj)) (fun j _ => rfl) hi]; exact adn_CS i hi
theorem co_CS : ∀ i, i < 3 → zeroD (coV (prC 6) (prC 7) i) = false := by decide +kernel
def diCU : Nat → Nat := rowL [4607321887468723930, 0, 0, 0, 4606873333828709904, 0, 0, 0, 4607850629844273690]
def maCU : Nat → Nat := rowL [4607261494640472345, 13817656436058171652, 4595786392682025041, 4601700511486224789, 4602683976427094922, 4588318417838637232, 13799594352664230018, 4585733573659448438, 4607687649001249520]
def adCU : Nat → Nat := rowL [4607292742252204561, 4579894808677472563, 4581332057761380208, 4583039434716832850, 4606935498107860329, 4572087613483262560, 4574010544923074216, 13801597732179658328, 4607848692921217848]
theorem di_CU : ∀ i, i < 9 → diF (prC 6) (prC 7) (prU 6) (prU 7) i = diCU i := by decide +kernel
theorem ma_CU : ∀ i, i < 9 → mulF ikN diCU i = maCU i := by decide +kernel
theorem adn_CU : ∀ i, i < 9 → mulF maCU kM i = adCU i := by decide +kernel
theorem ad_CU : ∀ i, i < 9 → adF (prC 6) (prC 7) (prU 6) (prU 7) i = adCU i := fun i hi => by
  unfold adF
  rw [mul_congr (fun j hj => (mul_congr ik_n di_CU hj).trans (ma_CU j hj)) (fun j _ => rfl) hi]; exact adn_CU i hi
theorem co_CU : ∀ i, i < 3 → zeroD (coV (prC 6) (prC 7) i) = false := by decide +kernel
def diSC : Nat → Nat := rowL [4606775643135022933, 0, 0, 0, 4607363107327063409, 0, 0, 0, 4606661269721198143]
def maSC : Nat → Nat := rowL [4606663776612364782, 13818050813236586193, 4594597824643703073, 4601107636797307547, 4603031517304636108, 4586853426409348052, 13799220066827918243, 4586163128720390981, 4606393846240442208]
def adSC : Nat → Nat := rowL [4606859674128280386, 13805182984262417872, 13791402019639688448, 13808315799136666092, 4607320364643768713, 4562152888250092032, 13792528845990653968, 4574367556346173744, 4606662724094530084]
theorem di_SC : ∀ i, i < 9 → diF (prS 6) (prS 7) (prC 6) (prC 7) i = diSC i := by decide +kernel
theorem ma_SC : ∀ i, i < 9 → mulF ikN diSC i = maSC i := by decide +kernel
theorem adn_SC : ∀ i, i < 9 → mulF maSC kM i = adSC i := by decide +kernel
theorem ad_SC : ∀ i, i < 9 → adF (prS 6) (prS 7) (prC 6) (prC 7) i = adSC i := fun i hi => by
  unfold adF
  rw [mul_congr (fun j hj => (mul_congr ik_n di_SC hj).trans (ma_SC j hj)) (fun j _ => rfl) hi]; exact adn_SC i hi
theorem co_SC : ∀ i, i < 3 → zeroD (coV (prS 6) (prS 7) i) = false := by decide +kernel
def diSU : Nat → Nat := rowL [4607041983335666935, 0, 0, 0, 4607202364455849383, 0, 0, 0, 4607551393168019719]
def maSU : Nat → Nat := rowL [4606926652500840993, 13817861709849375365, 4595403459144356027, 4601337917341862723, 4602864871867895900, 4587846426053072724, 13799365444506905643, 4585957157580416940, 4607397842261405863]
def adSU : Nat → Nat := rowL [4607067342791302902, 13797070139406890410, 4580255445996760328, 13798782396050252308, 4607190802210246567, 4572795138440233888, 4569231305435291904, 13795897304451359888, 4607550275685804552]
theorem di_SU : ∀ i, i < 9 → diF (prS 6) (prS 7) (prU 6) (prU 7) i = diSU i := by decide +kernel
theorem ma_SU : ∀ i, i < 9 → mulF ikN diSU i = maSU i := by decide +kernel
theorem adn_SU : ∀ i, i < 9 → mulF maSU kM i = adSU i := by decide +kernel
theorem ad_SU : ∀ i, i < 9 → adF (prS 6) (prS 7) (prU 6) (prU 7) i = adSU i := fun i hi => by
  unfold adF
  rw [mul_congr (fun j hj => (mul_congr ik_n di_SU hj).trans (ma_SU j hj)) (fun j _ => rfl) hi]; exact adn_SU i hi
theorem co_SU : ∀ i, i < 3 → zeroD (coV (prS 6) (prS 7) i) = false := by decide +kernel
def diUC : Nat → Nat := rowL [4606911860193353255, 0, 0, 0, 4607342452908129496, 0, 0, 0, 4606018665831863662]
def maUC : Nat → Nat := rowL [4606798221882540355, 13818026514674841120, 4594186654155273591, 4601225411501592381, 4603010104444222073, 4586346630649993580, 13799294418802312911, 4586136662761551319, 4605771492922960428]
def adUC : Nat → Nat := rowL [4606971460261359277, 13803424060331758439, 13803838681248295176, 13806433801568340058, 4607310947830586727, 13794246486603738256, 13796600340757636104, 4577539580773273184, 4606022075918943181]
theorem di_UC : ∀ i, i < 9 → diF (prU 6) (prU 7) (prC 6) (prC 7) i = diUC i := by decide +kernel
theorem ma_UC : ∀ i, i < 9 → mulF ikN diUC i = maUC i := by decide +kernel
theorem adn_UC : ∀ i, i < 9 → mulF maUC kM i = adUC i := by decide +kernel
theorem ad_UC : ∀ i, i < 9 → adF (prU 6) (prU 7) (prC 6) (prC 7) i = adUC i := fun i hi => by
  unfold adF
  rw [mul_congr (fun j hj => (mul_congr ik_n di_UC hj).trans (ma_UC j hj)) (fun j _ => rfl) hi]; exact adn_UC i hi
theorem co_UC : ∀ i, i < 3 → zeroD (coV (prU 6) (prU 7) i) = false := by decide +kernel
def diUS : Nat → Nat := rowL [4607253748669614683, 0, 0, 0, 4607142703381004758, 0, 0, 0, 4606500351035496028]
def maUS : Nat → Nat := rowL [4607194242129164497, 13817814883815032351, 4594494860725034462, 4601582684438514584, 4602823606901366223, 4586726516334777560, 13799519967645073774, 4585906154730513774, 4606237998634236091]
def adUS : Nat → Nat := rowL [4607241122893591652, 4573688912924881532, 13803155824217814208, 4575525488183185309, 4607165875691082602, 13795823607597906288, 13792070093482746544, 4572051641548771760, 4606502430277464249]
theorem di_US : ∀ i, i < 9 → diF (prU 6) (prU 7) (prS 6) (prS 7) i = diUS i := by decide +kernel
theorem ma_US : ∀ i, i < 9 → mulF ikN diUS i = maUS i := by decide +kernel
theorem adn_US : ∀ i, i < 9 → mulF maUS kM i = adUS i := by decide +kernel
theorem ad_US : ∀ i, i < 9 → adF (prU 6) (prU 7) (prS 6) (prS 7) i = adUS i := fun i hi => by
  unfold adF
  rw [mul_congr (fun j hj => (mul_congr ik_n di_US hj).trans (ma_US j hj)) (fun j _ => rfl) hi]; exact adn_US i hi
theorem co_US : ∀ i, i < 3 → zeroD (coV (prU 6) (prU 7) i) = false := by decide +kernel
/-- A single is near 1, as the statement asks. -/
def nearOne (x : Nat) : Bool := !(FloatKind.f64.format.order (absF (fop .sub .f64 (fcv .f32 .f64 x) 4607182418800017408)) 4517110426252607488 == some .gt)
/-- What is asked of a pair of primaries. -/
structure CvOK (df : Bool) (p q T : Nat → Nat) : Prop where
  be : BeOK df p q
  t : ∀ i, i < 3 → tmF (beF df p q) onesF i = T i ∧ isN .f64 (T i) = false ∧ ovf .f64 .f32 (T i) = false
  n : ∀ i, i < 3 → isN .f32 (fcv .f64 .f32 (T i)) = false ∧ isN .f64 (fop .sub .f64 (fcv .f32 .f64 (fcv .f64 .f32 (T i))) 4607182418800017408) = false ∧ nearOne (fcv .f64 .f32 (T i)) = true
def beUU : Nat → Nat := rowL [4607182418800017408, 4366239838735695872, 0, 4350547608784076800, 4607182418800017405, 4361736239108325376, 4345973640412528640, 4359484439294640128, 4607182418800017405]
def TUU : Nat → Nat := rowL [4607182418800017408, 4607182418800017405, 4607182418800017405]
theorem ben_UU : ∀ i, i < 9 → mulF xiU xyU i = beUU i := by decide +kernel
theorem be_UU : ∀ i, i < 9 → beF false prU prU i = beUU i := fun i hi => by
  have hs : ∀ j, j < 9 → (if false = true then mulF (adF (prU 6) (prU 7) (prU 6) (prU 7)) (xyF prU) else xyF prU) j = xyU j := xyF_U
  unfold beF
  rw [invF_congr xyF_U, mul_congr xi_U hs hi]; exact ben_UU i hi
theorem tn_UU : ∀ i, i < 3 → tmF beUU onesF i = TUU i ∧ isN .f64 (TUU i) = false ∧ ovf .f64 .f32 (TUU i) = false := by decide +kernel
theorem nn_UU : ∀ i, i < 3 → isN .f32 (fcv .f64 .f32 (TUU i)) = false ∧ isN .f64 (fop .sub .f64 (fcv .f32 .f64 (fcv .f64 .f32 (TUU i))) 4607182418800017408) = false ∧ nearOne (fcv .f64 .f32 (TUU i)) = true := by decide +kernel
theorem eq_UU : ∀ w, Sem.run Try.prog (Op.equalIn 10000 39 (spV (prU 6) (prU 7)) (spV (prU 6) (prU 7))) w = .ok (!false) w := fun w => by kernel_rfl
theorem cv_UU : CvOK false prU prU TUU :=
  ⟨⟨preU, preU, xyE_U, xyE_U, (invE_congr xyF_U).trans xie_U, spoU, spoU, fun h => (by cases h), ik_e, eq_UU⟩,
    fun i hi => ⟨(tm_congr be_UU (fun _ _ => rfl) hi).trans (tn_UU i hi).1, (tn_UU i hi).2⟩, nn_UU⟩
def srUS : Nat → Nat := rowL [4601215601689132917, 4600243763364788763, 4595258463067027930, 4596925953114956444, 4604624447305280044, 4589612326972221811, 4580757739079569035, 4592773128146949316, 4606088929216766837]
theorem sr_US : ∀ i, i < 9 → mulF adUS xyU i = srUS i := by decide +kernel
def beUS : Nat → Nat := rowL [4603697510045019960, 4599787925043844005, 4586988920108249008, 4589722412439768822, 4606429001412166912, 4578908400390654176, 4581599263719352242, 4592559751150346163, 4606009813666903242]
def TUS : Nat → Nat := rowL [4607182418800017410, 4607182418800017409, 4607182418800017406]
theorem ben_US : ∀ i, i < 9 → mulF xiS srUS i = beUS i := by decide +kernel
theorem be_US : ∀ i, i < 9 → beF true prU prS i = beUS i := fun i hi => by
  have hs : ∀ j, j < 9 → (if true = true then mulF (adF (prU 6) (prU 7) (prS 6) (prS 7)) (xyF prU) else xyF prU) j = srUS j := (fun j hj => (mul_congr ad_US xyF_U hj).trans (sr_US j hj))
  unfold beF
  rw [invF_congr xyF_S, mul_congr xi_S hs hi]; exact ben_US i hi
theorem tn_US : ∀ i, i < 3 → tmF beUS onesF i = TUS i ∧ isN .f64 (TUS i) = false ∧ ovf .f64 .f32 (TUS i) = false := by decide +kernel
theorem nn_US : ∀ i, i < 3 → isN .f32 (fcv .f64 .f32 (TUS i)) = false ∧ isN .f64 (fop .sub .f64 (fcv .f32 .f64 (fcv .f64 .f32 (TUS i))) 4607182418800017408) = false ∧ nearOne (fcv .f64 .f32 (TUS i)) = true := by decide +kernel
theorem eq_US : ∀ w, Sem.run Try.prog (Op.equalIn 10000 39 (spV (prU 6) (prU 7)) (spV (prS 6) (prS 7))) w = .ok (!true) w := fun w => by kernel_rfl
theorem cv_US : CvOK true prU prS TUS :=
  ⟨⟨preU, preS, xyE_U, xyE_S, (invE_congr xyF_S).trans xie_S, spoU, spoS, fun _ => co_US, ik_e, eq_US⟩,
    fun i hi => ⟨(tm_congr be_US (fun _ _ => rfl) hi).trans (tn_US i hi).1, (tn_US i hi).2⟩, nn_US⟩
def srUC : Nat → Nat := rowL [4600861657381898558, 4599727716384701386, 4594906642139578683, 4596663458934306377, 4604713920039939846, 4589421533456243526, 4580511925228216507, 4592570713545107411, 4605631837294748994]
theorem sr_UC : ∀ i, i < 9 → mulF adUC xyU i = srUC i := by decide +kernel
def beUC : Nat → Nat := rowL [4605998689906779845, 4593812823212311531, 4567913632201457664, 4585138623732840597, 4606838446025927310, 4570558609540638888, 4580491256484264707, 4589783387179631126, 4606391484389339106]
def TUC : Nat → Nat := rowL [4607182418800017408, 4607182418800017408, 4607182418800017405]
theorem ben_UC : ∀ i, i < 9 → mulF xiC srUC i = beUC i := by decide +kernel
theorem be_UC : ∀ i, i < 9 → beF true prU prC i = beUC i := fun i hi => by
  have hs : ∀ j, j < 9 → (if true = true then mulF (adF (prU 6) (prU 7) (prC 6) (prC 7)) (xyF prU) else xyF prU) j = srUC j := (fun j hj => (mul_congr ad_UC xyF_U hj).trans (sr_UC j hj))
  unfold beF
  rw [invF_congr xyF_C, mul_congr xi_C hs hi]; exact ben_UC i hi
theorem tn_UC : ∀ i, i < 3 → tmF beUC onesF i = TUC i ∧ isN .f64 (TUC i) = false ∧ ovf .f64 .f32 (TUC i) = false := by decide +kernel
theorem nn_UC : ∀ i, i < 3 → isN .f32 (fcv .f64 .f32 (TUC i)) = false ∧ isN .f64 (fop .sub .f64 (fcv .f32 .f64 (fcv .f64 .f32 (TUC i))) 4607182418800017408) = false ∧ nearOne (fcv .f64 .f32 (TUC i)) = true := by decide +kernel
theorem eq_UC : ∀ w, Sem.run Try.prog (Op.equalIn 10000 39 (spV (prU 6) (prU 7)) (spV (prC 6) (prC 7))) w = .ok (!true) w := fun w => by kernel_rfl
theorem cv_UC : CvOK true prU prC TUC :=
  ⟨⟨preU, preC, xyE_U, xyE_C, (invE_congr xyF_C).trans xie_C, spoU, spoC, fun _ => co_UC, ik_e, eq_UC⟩,
    fun i hi => ⟨(tm_congr be_UC (fun _ _ => rfl) hi).trans (tn_UC i hi).1, (tn_UC i hi).2⟩, nn_UC⟩
def beUW : Nat → Nat := rowL [4603826371372635147, 4599603455549139912, 4586402894824038684, 4589643407216052045, 4606457702917243611, 4577703545855479539, 4580381732111430812, 4591006443989079348, 4606242024924809139]
def TUW : Nat → Nat := rowL [4607182418800017408, 4607182418800017408, 4607182418800017406]
theorem ben_UW : ∀ i, i < 9 → mulF xiW xyU i = beUW i := by decide +kernel
theorem be_UW : ∀ i, i < 9 → beF false prU prW i = beUW i := fun i hi => by
  have hs : ∀ j, j < 9 → (if false = true then mulF (adF (prU 6) (prU 7) (prW 6) (prW 7)) (xyF prU) else xyF prU) j = xyU j := xyF_U
  unfold beF
  rw [invF_congr xyF_W, mul_congr xi_W hs hi]; exact ben_UW i hi
theorem tn_UW : ∀ i, i < 3 → tmF beUW onesF i = TUW i ∧ isN .f64 (TUW i) = false ∧ ovf .f64 .f32 (TUW i) = false := by decide +kernel
theorem nn_UW : ∀ i, i < 3 → isN .f32 (fcv .f64 .f32 (TUW i)) = false ∧ isN .f64 (fop .sub .f64 (fcv .f32 .f64 (fcv .f64 .f32 (TUW i))) 4607182418800017408) = false ∧ nearOne (fcv .f64 .f32 (TUW i)) = true := by decide +kernel
theorem eq_UW : ∀ w, Sem.run Try.prog (Op.equalIn 10000 39 (spV (prU 6) (prU 7)) (spV (prW 6) (prW 7))) w = .ok (!false) w := fun w => by kernel_rfl
theorem cv_UW : CvOK false prU prW TUW :=
  ⟨⟨preU, preW, xyE_U, xyE_W, (invE_congr xyF_W).trans xie_W, spoU, spoW, fun h => (by cases h), ik_e, eq_UW⟩,
    fun i hi => ⟨(tm_congr be_UW (fun _ _ => rfl) hi).trans (tn_UW i hi).1, (tn_UW i hi).2⟩, nn_UW⟩
def srSU : Nat → Nat := rowL [4604050053150345994, 4593788213936892919, 4595292276662917171, 4598493573533912699, 4604249134033978716, 4588517748364359253, 13796226884370727755, 4563956536495229188, 4607601571179035023]
theorem sr_SU : ∀ i, i < 9 → mulF adSU xyS i = srSU i := by decide +kernel
def beSU : Nat → Nat := rowL [4610357686211210699, 13827147861931644076, 13814035891844298576, 13817233040188894996, 4607816547064528383, 13800606347795894060, 13805947760070054138, 13817186651431501479, 4607871344676523290]
def TSU : Nat → Nat := rowL [4607182418800017408, 4607182418800017403, 4607182418800017409]
theorem ben_SU : ∀ i, i < 9 → mulF xiU srSU i = beSU i := by decide +kernel
theorem be_SU : ∀ i, i < 9 → beF true prS prU i = beSU i := fun i hi => by
  have hs : ∀ j, j < 9 → (if true = true then mulF (adF (prS 6) (prS 7) (prU 6) (prU 7)) (xyF prS) else xyF prS) j = srSU j := (fun j hj => (mul_congr ad_SU xyF_S hj).trans (sr_SU j hj))
  unfold beF
  rw [invF_congr xyF_U, mul_congr xi_U hs hi]; exact ben_SU i hi
theorem tn_SU : ∀ i, i < 3 → tmF beSU onesF i = TSU i ∧ isN .f64 (TSU i) = false ∧ ovf .f64 .f32 (TSU i) = false := by decide +kernel
theorem nn_SU : ∀ i, i < 3 → isN .f32 (fcv .f64 .f32 (TSU i)) = false ∧ isN .f64 (fop .sub .f64 (fcv .f32 .f64 (fcv .f64 .f32 (TSU i))) 4607182418800017408) = false ∧ nearOne (fcv .f64 .f32 (TSU i)) = true := by decide +kernel
theorem eq_SU : ∀ w, Sem.run Try.prog (Op.equalIn 10000 39 (spV (prS 6) (prS 7)) (spV (prU 6) (prU 7))) w = .ok (!true) w := fun w => by kernel_rfl
theorem cv_SU : CvOK true prS prU TSU :=
  ⟨⟨preS, preU, xyE_S, xyE_U, (invE_congr xyF_U).trans xie_U, spoS, spoU, fun _ => co_SU, ik_e, eq_SU⟩,
    fun i hi => ⟨(tm_congr be_SU (fun _ _ => rfl) hi).trans (tn_SU i hi).1, (tn_SU i hi).2⟩, nn_SU⟩
def beSS : Nat → Nat := rowL [4607182418800017408, 4358921489341218816, 4363988038922010624, 4360784062038671360, 4607182418800017407, 4350477240039899136, 4341470040785158144, 0, 4607182418800017407]
def TSS : Nat → Nat := rowL [4607182418800017408, 4607182418800017407, 4607182418800017407]
theorem ben_SS : ∀ i, i < 9 → mulF xiS xyS i = beSS i := by decide +kernel
theorem be_SS : ∀ i, i < 9 → beF false prS prS i = beSS i := fun i hi => by
  have hs : ∀ j, j < 9 → (if false = true then mulF (adF (prS 6) (prS 7) (prS 6) (prS 7)) (xyF prS) else xyF prS) j = xyS j := xyF_S
  unfold beF
  rw [invF_congr xyF_S, mul_congr xi_S hs hi]; exact ben_SS i hi
theorem tn_SS : ∀ i, i < 3 → tmF beSS onesF i = TSS i ∧ isN .f64 (TSS i) = false ∧ ovf .f64 .f32 (TSS i) = false := by decide +kernel
theorem nn_SS : ∀ i, i < 3 → isN .f32 (fcv .f64 .f32 (TSS i)) = false ∧ isN .f64 (fop .sub .f64 (fcv .f32 .f64 (fcv .f64 .f32 (TSS i))) 4607182418800017408) = false ∧ nearOne (fcv .f64 .f32 (TSS i)) = true := by decide +kernel
theorem eq_SS : ∀ w, Sem.run Try.prog (Op.equalIn 10000 39 (spV (prS 6) (prS 7)) (spV (prS 6) (prS 7))) w = .ok (!false) w := fun w => by kernel_rfl
theorem cv_SS : CvOK false prS prS TSS :=
  ⟨⟨preS, preS, xyE_S, xyE_S, (invE_congr xyF_S).trans xie_S, spoS, spoS, fun h => (by cases h), ik_e, eq_SS⟩,
    fun i hi => ⟨(tm_congr be_SS (fun _ _ => rfl) hi).trans (tn_SS i hi).1, (tn_SS i hi).2⟩, nn_SS⟩
def srSC : Nat → Nat := rowL [4603876050448111848, 4592936673295732784, 4594459460073529234, 4598329710024524805, 4604392759070018984, 4587530655862818123, 13796299469385621950, 4575725686993728227, 4606749437148983869]
theorem sr_SC : ∀ i, i < 9 → mulF adSC xyS i = srSC i := by decide +kernel
def beSC : Nat → Nat := rowL [4609272629829978887, 13824129205460296831, 13813137639246864004, 13812826592536900231, 4607521501506646294, 13799607164932650976, 13791404987106281104, 13810310539718433174, 4607405718481601392]
def TSC : Nat → Nat := rowL [4607182418800017406, 4607182418800017404, 4607182418800017408]
theorem ben_SC : ∀ i, i < 9 → mulF xiC srSC i = beSC i := by decide +kernel
theorem be_SC : ∀ i, i < 9 → beF true prS prC i = beSC i := fun i hi => by
  have hs : ∀ j, j < 9 → (if true = true then mulF (adF (prS 6) (prS 7) (prC 6) (prC 7)) (xyF prS) else xyF prS) j = srSC j := (fun j hj => (mul_congr ad_SC xyF_S hj).trans (sr_SC j hj))
  unfold beF
  rw [invF_congr xyF_C, mul_congr xi_C hs hi]; exact ben_SC i hi
theorem tn_SC : ∀ i, i < 3 → tmF beSC onesF i = TSC i ∧ isN .f64 (TSC i) = false ∧ ovf .f64 .f32 (TSC i) = false := by decide +kernel
theorem nn_SC : ∀ i, i < 3 → isN .f32 (fcv .f64 .f32 (TSC i)) = false ∧ isN .f64 (fop .sub .f64 (fcv .f32 .f64 (fcv .f64 .f32 (TSC i))) 4607182418800017408) = false ∧ nearOne (fcv .f64 .f32 (TSC i)) = true := by decide +kernel
theorem eq_SC : ∀ w, Sem.run Try.prog (Op.equalIn 10000 39 (spV (prS 6) (prS 7)) (spV (prC 6) (prC 7))) w = .ok (!true) w := fun w => by kernel_rfl
theorem cv_SC : CvOK true prS prC TSC :=
  ⟨⟨preS, preC, xyE_S, xyE_C, (invE_congr xyF_C).trans xie_C, spoS, spoC, fun _ => co_SC, ik_e, eq_SC⟩,
    fun i hi => ⟨(tm_congr be_SC (fun _ _ => rfl) hi).trans (tn_SC i hi).1, (tn_SC i hi).2⟩, nn_SC⟩
def srSW : Nat → Nat := rowL [4604050053150345994, 4593788213936892919, 4595292276662917171, 4598493573533912699, 4604249134033978716, 4588517748364359253, 13796226884370727755, 4563956536495229188, 4607601571179035023]
theorem sr_SW : ∀ i, i < 9 → mulF adSU xyS i = srSW i := by decide +kernel
def beSW : Nat → Nat := rowL [4607298723033586686, 13804809197697821030, 13796676185063708736, 13790670501363045121, 4607203074483135721, 13790942127155708392, 13795802073920950272, 13806318624484050602, 4607318893330470124]
def TSW : Nat → Nat := rowL [4607182418800017408, 4607182418800017404, 4607182418800017409]
theorem ben_SW : ∀ i, i < 9 → mulF xiW srSW i = beSW i := by decide +kernel
theorem be_SW : ∀ i, i < 9 → beF true prS prW i = beSW i := fun i hi => by
  have hs : ∀ j, j < 9 → (if true = true then mulF (adF (prS 6) (prS 7) (prW 6) (prW 7)) (xyF prS) else xyF prS) j = srSW j := (fun j hj => (mul_congr ad_SU xyF_S hj).trans (sr_SW j hj))
  unfold beF
  rw [invF_congr xyF_W, mul_congr xi_W hs hi]; exact ben_SW i hi
theorem tn_SW : ∀ i, i < 3 → tmF beSW onesF i = TSW i ∧ isN .f64 (TSW i) = false ∧ ovf .f64 .f32 (TSW i) = false := by decide +kernel
theorem nn_SW : ∀ i, i < 3 → isN .f32 (fcv .f64 .f32 (TSW i)) = false ∧ isN .f64 (fop .sub .f64 (fcv .f32 .f64 (fcv .f64 .f32 (TSW i))) 4607182418800017408) = false ∧ nearOne (fcv .f64 .f32 (TSW i)) = true := by decide +kernel
theorem eq_SW : ∀ w, Sem.run Try.prog (Op.equalIn 10000 39 (spV (prS 6) (prS 7)) (spV (prW 6) (prW 7))) w = .ok (!true) w := fun w => by kernel_rfl
theorem cv_SW : CvOK true prS prW TSW :=
  ⟨⟨preS, preW, xyE_S, xyE_W, (invE_congr xyF_W).trans xie_W, spoS, spoW, fun _ => co_SU, ik_e, eq_SW⟩,
    fun i hi => ⟨(tm_congr be_SW (fun _ _ => rfl) hi).trans (tn_SW i hi).1, (tn_SW i hi).2⟩, nn_SW⟩
def srCU : Nat → Nat := rowL [4601944762756205970, 4599000130856919089, 4596208497174926543, 4596919634664515938, 4604562527488112759, 4590120322410441115, 4553653248834642512, 4586925520986925432, 4607370877436274681]
theorem sr_CU : ∀ i, i < 9 → mulF adCU xyC i = srCU i := by decide +kernel
def beCU : Nat → Nat := rowL [4607891809949755876, 13818123167493034608, 13791407665792888832, 13809513655083308919, 4607387638690707362, 13794711973483177144, 13804231827338269969, 13813698613049643422, 4607617593662546801]
def TCU : Nat → Nat := rowL [4607182418800017404, 4607182418800017409, 4607182418800017411]
theorem ben_CU : ∀ i, i < 9 → mulF xiU srCU i = beCU i := by decide +kernel
theorem be_CU : ∀ i, i < 9 → beF true prC prU i = beCU i := fun i hi => by
  have hs : ∀ j, j < 9 → (if true = true then mulF (adF (prC 6) (prC 7) (prU 6) (prU 7)) (xyF prC) else xyF prC) j = srCU j := (fun j hj => (mul_congr ad_CU xyF_C hj).trans (sr_CU j hj))
  unfold beF
  rw [invF_congr xyF_U, mul_congr xi_U hs hi]; exact ben_CU i hi
theorem tn_CU : ∀ i, i < 3 → tmF beCU onesF i = TCU i ∧ isN .f64 (TCU i) = false ∧ ovf .f64 .f32 (TCU i) = false := by decide +kernel
theorem nn_CU : ∀ i, i < 3 → isN .f32 (fcv .f64 .f32 (TCU i)) = false ∧ isN .f64 (fop .sub .f64 (fcv .f32 .f64 (fcv .f64 .f32 (TCU i))) 4607182418800017408) = false ∧ nearOne (fcv .f64 .f32 (TCU i)) = true := by decide +kernel
theorem eq_CU : ∀ w, Sem.run Try.prog (Op.equalIn 10000 39 (spV (prC 6) (prC 7)) (spV (prU 6) (prU 7))) w = .ok (!true) w := fun w => by kernel_rfl
theorem cv_CU : CvOK true prC prU TCU :=
  ⟨⟨preC, preU, xyE_C, xyE_U, (invE_congr xyF_U).trans xie_U, spoC, spoU, fun _ => co_CU, ik_e, eq_CU⟩,
    fun i hi => ⟨(tm_congr be_CU (fun _ _ => rfl) hi).trans (tn_CU i hi).1, (tn_CU i hi).2⟩, nn_CU⟩
def srCS : Nat → Nat := rowL [4602076192041484998, 4599134920769928854, 4595754967552043581, 4597032725588681456, 4604569178774636647, 4589840930269918950, 13765195960199640256, 4586772516244291067, 4606849086759460869]
theorem sr_CS : ∀ i, i < 9 → mulF adCS xyC i = srCS i := by decide +kernel
def beCS : Nat → Nat := rowL [4604432745137762079, 4598288069952527111, 4587223999354910216, 4586354718539924990, 4606697613453495011, 4577405573941964604, 4570483321547977324, 4586360581692914376, 4606762367747144036]
def TCS : Nat → Nat := rowL [4607182418800017409, 4607182418800017408, 4607182418800017409]
theorem ben_CS : ∀ i, i < 9 → mulF xiS srCS i = beCS i := by decide +kernel
theorem be_CS : ∀ i, i < 9 → beF true prC prS i = beCS i := fun i hi => by
  have hs : ∀ j, j < 9 → (if true = true then mulF (adF (prC 6) (prC 7) (prS 6) (prS 7)) (xyF prC) else xyF prC) j = srCS j := (fun j hj => (mul_congr ad_CS xyF_C hj).trans (sr_CS j hj))
  unfold beF
  rw [invF_congr xyF_S, mul_congr xi_S hs hi]; exact ben_CS i hi
theorem tn_CS : ∀ i, i < 3 → tmF beCS onesF i = TCS i ∧ isN .f64 (TCS i) = false ∧ ovf .f64 .f32 (TCS i) = false := by decide +kernel
theorem nn_CS : ∀ i, i < 3 → isN .f32 (fcv .f64 .f32 (TCS i)) = false ∧ isN .f64 (fop .sub .f64 (fcv .f32 .f64 (fcv .f64 .f32 (TCS i))) 4607182418800017408) = false ∧ nearOne (fcv .f64 .f32 (TCS i)) = true := by decide +kernel
theorem eq_CS : ∀ w, Sem.run Try.prog (Op.equalIn 10000 39 (spV (prC 6) (prC 7)) (spV (prS 6) (prS 7))) w = .ok (!true) w := fun w => by kernel_rfl
theorem cv_CS : CvOK true prC prS TCS :=
  ⟨⟨preC, preS, xyE_C, xyE_S, (invE_congr xyF_S).trans xie_S, spoC, spoS, fun _ => co_CS, ik_e, eq_CS⟩,
    fun i hi => ⟨(tm_congr be_CS (fun _ _ => rfl) hi).trans (tn_CS i hi).1, (tn_CS i hi).2⟩, nn_CS⟩
def beCC : Nat → Nat := rowL [4607182418800017409, 13589330400613761024, 4363988038922010624, 0, 4607182418800017407, 13579478776428888064, 0, 13578352876522045440, 4607182418800017406]
def TCC : Nat → Nat := rowL [4607182418800017409, 4607182418800017407, 4607182418800017406]
theorem ben_CC : ∀ i, i < 9 → mulF xiC xyC i = beCC i := by decide +kernel
theorem be_CC : ∀ i, i < 9 → beF false prC prC i = beCC i := fun i hi => by
  have hs : ∀ j, j < 9 → (if false = true then mulF (adF (prC 6) (prC 7) (prC 6) (prC 7)) (xyF prC) else xyF prC) j = xyC j := xyF_C
  unfold beF
  rw [invF_congr xyF_C, mul_congr xi_C hs hi]; exact ben_CC i hi
theorem tn_CC : ∀ i, i < 3 → tmF beCC onesF i = TCC i ∧ isN .f64 (TCC i) = false ∧ ovf .f64 .f32 (TCC i) = false := by decide +kernel
theorem nn_CC : ∀ i, i < 3 → isN .f32 (fcv .f64 .f32 (TCC i)) = false ∧ isN .f64 (fop .sub .f64 (fcv .f32 .f64 (fcv .f64 .f32 (TCC i))) 4607182418800017408) = false ∧ nearOne (fcv .f64 .f32 (TCC i)) = true := by decide +kernel
theorem eq_CC : ∀ w, Sem.run Try.prog (Op.equalIn 10000 39 (spV (prC 6) (prC 7)) (spV (prC 6) (prC 7))) w = .ok (!false) w := fun w => by kernel_rfl
theorem cv_CC : CvOK false prC prC TCC :=
  ⟨⟨preC, preC, xyE_C, xyE_C, (invE_congr xyF_C).trans xie_C, spoC, spoC, fun h => (by cases h), ik_e, eq_CC⟩,
    fun i hi => ⟨(tm_congr be_CC (fun _ _ => rfl) hi).trans (tn_CC i hi).1, (tn_CC i hi).2⟩, nn_CC⟩
def srCW : Nat → Nat := rowL [4601944762756205970, 4599000130856919089, 4596208497174926543, 4596919634664515938, 4604562527488112759, 4590120322410441115, 4553653248834642512, 4586925520986925432, 4607370877436274681]
theorem sr_CW : ∀ i, i < 9 → mulF adCU xyC i = srCW i := by decide +kernel
def beCW : Nat → Nat := rowL [4604586393111767220, 4597946807107975131, 4586582084778038616, 4586158197907568704, 4606730632484615919, 4576078438479651806, 13784302501861290682, 4581165165821037878, 4607017904171630007]
def TCW : Nat → Nat := rowL [4607182418800017408, 4607182418800017409, 4607182418800017410]
theorem ben_CW : ∀ i, i < 9 → mulF xiW srCW i = beCW i := by decide +kernel
theorem be_CW : ∀ i, i < 9 → beF true prC prW i = beCW i := fun i hi => by
  have hs : ∀ j, j < 9 → (if true = true then mulF (adF (prC 6) (prC 7) (prW 6) (prW 7)) (xyF prC) else xyF prC) j = srCW j := (fun j hj => (mul_congr ad_CU xyF_C hj).trans (sr_CW j hj))
  unfold beF
  rw [invF_congr xyF_W, mul_congr xi_W hs hi]; exact ben_CW i hi
theorem tn_CW : ∀ i, i < 3 → tmF beCW onesF i = TCW i ∧ isN .f64 (TCW i) = false ∧ ovf .f64 .f32 (TCW i) = false := by decide +kernel
theorem nn_CW : ∀ i, i < 3 → isN .f32 (fcv .f64 .f32 (TCW i)) = false ∧ isN .f64 (fop .sub .f64 (fcv .f32 .f64 (fcv .f64 .f32 (TCW i))) 4607182418800017408) = false ∧ nearOne (fcv .f64 .f32 (TCW i)) = true := by decide +kernel
theorem eq_CW : ∀ w, Sem.run Try.prog (Op.equalIn 10000 39 (spV (prC 6) (prC 7)) (spV (prW 6) (prW 7))) w = .ok (!true) w := fun w => by kernel_rfl
theorem cv_CW : CvOK true prC prW TCW :=
  ⟨⟨preC, preW, xyE_C, xyE_W, (invE_congr xyF_W).trans xie_W, spoC, spoW, fun _ => co_CU, ik_e, eq_CW⟩,
    fun i hi => ⟨(tm_congr be_CW (fun _ _ => rfl) hi).trans (tn_CW i hi).1, (tn_CW i hi).2⟩, nn_CW⟩
def beWU : Nat → Nat := rowL [4610157006066002590, 13826840257295913366, 13813285846606814484, 13817011269387305352, 4607780946923212586, 13799338763449895304, 13804260860234156414, 13815283925854566442, 4607717129351852713]
def TWU : Nat → Nat := rowL [4607182418800017410, 4607182418800017406, 4607182418800017408]
theorem ben_WU : ∀ i, i < 9 → mulF xiU xyW i = beWU i := by decide +kernel
theorem be_WU : ∀ i, i < 9 → beF false prW prU i = beWU i := fun i hi => by
  have hs : ∀ j, j < 9 → (if false = true then mulF (adF (prW 6) (prW 7) (prU 6) (prU 7)) (xyF prW) else xyF prW) j = xyW j := xyF_W
  unfold beF
  rw [invF_congr xyF_U, mul_congr xi_U hs hi]; exact ben_WU i hi
theorem tn_WU : ∀ i, i < 3 → tmF beWU onesF i = TWU i ∧ isN .f64 (TWU i) = false ∧ ovf .f64 .f32 (TWU i) = false := by decide +kernel
theorem nn_WU : ∀ i, i < 3 → isN .f32 (fcv .f64 .f32 (TWU i)) = false ∧ isN .f64 (fop .sub .f64 (fcv .f32 .f64 (fcv .f64 .f32 (TWU i))) 4607182418800017408) = false ∧ nearOne (fcv .f64 .f32 (TWU i)) = true := by decide +kernel
theorem eq_WU : ∀ w, Sem.run Try.prog (Op.equalIn 10000 39 (spV (prW 6) (prW 7)) (spV (prU 6) (prU 7))) w = .ok (!false) w := fun w => by kernel_rfl
theorem cv_WU : CvOK false prW prU TWU :=
  ⟨⟨preW, preU, xyE_W, xyE_U, (invE_congr xyF_U).trans xie_U, spoW, spoU, fun h => (by cases h), ik_e, eq_WU⟩,
    fun i hi => ⟨(tm_congr be_WU (fun _ _ => rfl) hi).trans (tn_WU i hi).1, (tn_WU i hi).2⟩, nn_WU⟩
def srWS : Nat → Nat := rowL [4604001658127686303, 4594580304344786343, 4594772675119357145, 4598483647341165417, 4604279622330154076, 4588109345167531784, 13781851672345148804, 4583934911732018618, 4607008446253158261]
theorem sr_WS : ∀ i, i < 9 → mulF adUS xyW i = srWS i := by decide +kernel
def beWS : Nat → Nat := rowL [4606956293030694373, 4581306280595003601, 4572997883880713504, 4567172091027006366, 4607142206044453639, 4567415219449943600, 4572180875673699726, 4582728093257134085, 4606918244261620085]
def TWS : Nat → Nat := rowL [4607182418800017411, 4607182418800017409, 4607182418800017408]
theorem ben_WS : ∀ i, i < 9 → mulF xiS srWS i = beWS i := by decide +kernel
theorem be_WS : ∀ i, i < 9 → beF true prW prS i = beWS i := fun i hi => by
  have hs : ∀ j, j < 9 → (if true = true then mulF (adF (prW 6) (prW 7) (prS 6) (prS 7)) (xyF prW) else xyF prW) j = srWS j := (fun j hj => (mul_congr ad_US xyF_W hj).trans (sr_WS j hj))
  unfold beF
  rw [invF_congr xyF_S, mul_congr xi_S hs hi]; exact ben_WS i hi
theorem tn_WS : ∀ i, i < 3 → tmF beWS onesF i = TWS i ∧ isN .f64 (TWS i) = false ∧ ovf .f64 .f32 (TWS i) = false := by decide +kernel
theorem nn_WS : ∀ i, i < 3 → isN .f32 (fcv .f64 .f32 (TWS i)) = false ∧ isN .f64 (fop .sub .f64 (fcv .f32 .f64 (fcv .f64 .f32 (TWS i))) 4607182418800017408) = false ∧ nearOne (fcv .f64 .f32 (TWS i)) = true := by decide +kernel
theorem eq_WS : ∀ w, Sem.run Try.prog (Op.equalIn 10000 39 (spV (prW 6) (prW 7)) (spV (prS 6) (prS 7))) w = .ok (!true) w := fun w => by kernel_rfl
theorem cv_WS : CvOK true prW prS TWS :=
  ⟨⟨preW, preS, xyE_W, xyE_S, (invE_congr xyF_S).trans xie_S, spoW, spoS, fun _ => co_US, ik_e, eq_WS⟩,
    fun i hi => ⟨(tm_congr be_WS (fun _ _ => rfl) hi).trans (tn_WS i hi).1, (tn_WS i hi).2⟩, nn_WS⟩
def srWC : Nat → Nat := rowL [4603741530868195431, 4593862415371933877, 4594439269628080382, 4598244290729978728, 4604421947804771565, 4587746990463145453, 13783190492447293240, 4584633260733424546, 4606497854858267478]
theorem sr_WC : ∀ i, i < 9 → mulF adUC xyW i = srWC i := by decide +kernel
def beWC : Nat → Nat := rowL [4609101701909381706, 13823611926191918910, 13812403762036330280, 13812540506508045172, 4607493039737483362, 13797476235158072340, 4567781494859349036, 13805117061886047186, 4607266534730973936]
def TWC : Nat → Nat := rowL [4607182418800017409, 4607182418800017406, 4607182418800017406]
theorem ben_WC : ∀ i, i < 9 → mulF xiC srWC i = beWC i := by decide +kernel
theorem be_WC : ∀ i, i < 9 → beF true prW prC i = beWC i := fun i hi => by
  have hs : ∀ j, j < 9 → (if true = true then mulF (adF (prW 6) (prW 7) (prC 6) (prC 7)) (xyF prW) else xyF prW) j = srWC j := (fun j hj => (mul_congr ad_UC xyF_W hj).trans (sr_WC j hj))
  unfold beF
  rw [invF_congr xyF_C, mul_congr xi_C hs hi]; exact ben_WC i hi
theorem tn_WC : ∀ i, i < 3 → tmF beWC onesF i = TWC i ∧ isN .f64 (TWC i) = false ∧ ovf .f64 .f32 (TWC i) = false := by decide +kernel
theorem nn_WC : ∀ i, i < 3 → isN .f32 (fcv .f64 .f32 (TWC i)) = false ∧ isN .f64 (fop .sub .f64 (fcv .f32 .f64 (fcv .f64 .f32 (TWC i))) 4607182418800017408) = false ∧ nearOne (fcv .f64 .f32 (TWC i)) = true := by decide +kernel
theorem eq_WC : ∀ w, Sem.run Try.prog (Op.equalIn 10000 39 (spV (prW 6) (prW 7)) (spV (prC 6) (prC 7))) w = .ok (!true) w := fun w => by kernel_rfl
theorem cv_WC : CvOK true prW prC TWC :=
  ⟨⟨preW, preC, xyE_W, xyE_C, (invE_congr xyF_C).trans xie_C, spoW, spoC, fun _ => co_UC, ik_e, eq_WC⟩,
    fun i hi => ⟨(tm_congr be_WC (fun _ _ => rfl) hi).trans (tn_WC i hi).1, (tn_WC i hi).2⟩, nn_WC⟩
def beWW : Nat → Nat := rowL [4607182418800017409, 4366802788689117184, 0, 4363988038922010624, 4607182418800017407, 4345973640412528640, 4341470040785158144, 0, 4607182418800017407]
def TWW : Nat → Nat := rowL [4607182418800017409, 4607182418800017408, 4607182418800017407]
theorem ben_WW : ∀ i, i < 9 → mulF xiW xyW i = beWW i := by decide +kernel
theorem be_WW : ∀ i, i < 9 → beF false prW prW i = beWW i := fun i hi => by
  have hs : ∀ j, j < 9 → (if false = true then mulF (adF (prW 6) (prW 7) (prW 6) (prW 7)) (xyF prW) else xyF prW) j = xyW j := xyF_W
  unfold beF
  rw [invF_congr xyF_W, mul_congr xi_W hs hi]; exact ben_WW i hi
theorem tn_WW : ∀ i, i < 3 → tmF beWW onesF i = TWW i ∧ isN .f64 (TWW i) = false ∧ ovf .f64 .f32 (TWW i) = false := by decide +kernel
theorem nn_WW : ∀ i, i < 3 → isN .f32 (fcv .f64 .f32 (TWW i)) = false ∧ isN .f64 (fop .sub .f64 (fcv .f32 .f64 (fcv .f64 .f32 (TWW i))) 4607182418800017408) = false ∧ nearOne (fcv .f64 .f32 (TWW i)) = true := by decide +kernel
theorem eq_WW : ∀ w, Sem.run Try.prog (Op.equalIn 10000 39 (spV (prW 6) (prW 7)) (spV (prW 6) (prW 7))) w = .ok (!false) w := fun w => by kernel_rfl
theorem cv_WW : CvOK false prW prW TWW :=
  ⟨⟨preW, preW, xyE_W, xyE_W, (invE_congr xyF_W).trans xie_W, spoW, spoW, fun h => (by cases h), ik_e, eq_WW⟩,
    fun i hi => ⟨(tm_congr be_WW (fun _ _ => rfl) hi).trans (tn_WW i hi).1, (tn_WW i hi).2⟩, nn_WW⟩
end Go.Proofs.Ytfmdnibfeckmaaa
