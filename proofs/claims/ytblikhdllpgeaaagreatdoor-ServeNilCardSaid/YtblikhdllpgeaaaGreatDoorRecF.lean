/-
  What the reckoner is told of the program is so.
-/
import Derived.Test.YtblikhdllpgeaaaGreatDoorRecC1
import Derived.Test.YtblikhdllpgeaaaGreatDoorProg
import Derived.KernelRfl
namespace PH.R
open Go Go.Proofs
set_option maxRecDepth 100000
noncomputable section
noncomputable abbrev PP : Program := Tryz.prog
theorem tyT_mk : tyT = mkT tyL := by kernel_rfl
theorem tyL_lt : (tyL.all fun e => Nat.blt e.1 big) = true := by kernel_rfl
theorem ty_ok : TyOk PP (tyIn tyT) := tyIn_ok tyT_mk tyL_lt (by kernel_rfl)
theorem ms_ok : MsOk (cx PP (msIn msL) (tyIn tyT) tsL) := msIn_ok ty_ok (by kernel_rfl)
theorem ts_ok : TsOk PP tsL := fun u e h => by cases h
noncomputable def eL0 : List (Nat × Fn) := [(5,q5),(6,q6),(7,q7),(8,q8),(9,q9),(10,q10),(11,q11)]
theorem e0 : ∀ e, e ∈ eL0 → fnAt PP (tyIn tyT) (msIn msL) tsL e.1 = some e.2 := fns_part (by kernel_rfl)
noncomputable def eL1 : List (Nat × Fn) := [(12,q12),(13,q13),(14,q14),(15,q15),(16,q16),(17,q17),(18,q18),(19,q19),(20,q20),(21,q21)]
theorem e1 : ∀ e, e ∈ eL1 → fnAt PP (tyIn tyT) (msIn msL) tsL e.1 = some e.2 := fns_part (by kernel_rfl)
noncomputable def eL2 : List (Nat × Fn) := [(22,q22),(23,q23),(24,q24),(25,q25),(26,q26),(27,q27),(28,q28),(29,q29),(30,q30),(31,q31),(32,q32),(33,q33),(34,q34),(35,q35)]
theorem e2 : ∀ e, e ∈ eL2 → fnAt PP (tyIn tyT) (msIn msL) tsL e.1 = some e.2 := fns_part (by kernel_rfl)
noncomputable def eL3 : List (Nat × Fn) := [(36,q36),(37,q37),(38,q38),(39,q39),(40,q40),(41,q41),(42,q42),(43,q43),(44,q44),(45,q45),(46,q46),(47,q47),(48,q48),(49,q49),(50,q50),(51,q51),(52,q52)]
theorem e3 : ∀ e, e ∈ eL3 → fnAt PP (tyIn tyT) (msIn msL) tsL e.1 = some e.2 := fns_part (by kernel_rfl)
noncomputable def eL4 : List (Nat × Fn) := [(54,q54),(56,q56),(57,q57),(58,q58),(59,q59),(60,q60),(61,q61),(62,q62),(63,q63),(64,q64),(66,q66),(67,q67),(68,q68),(69,q69),(70,q70),(71,q71),(72,q72),(73,q73),(74,q74),(75,q75),(76,q76),(77,q77),(78,q78)]
theorem e4 : ∀ e, e ∈ eL4 → fnAt PP (tyIn tyT) (msIn msL) tsL e.1 = some e.2 := fns_part (by kernel_rfl)
noncomputable def eL5 : List (Nat × Fn) := [(80,q80),(81,q81),(82,q82),(83,q83),(84,q84),(85,q85),(86,q86),(87,q87),(88,q88),(89,q89),(90,q90),(91,q91),(92,q92),(93,q93),(94,q94),(95,q95),(96,q96),(97,q97),(98,q98),(99,q99),(100,q100),(101,q101),(102,q102),(103,q103),(104,q104)]
theorem e5 : ∀ e, e ∈ eL5 → fnAt PP (tyIn tyT) (msIn msL) tsL e.1 = some e.2 := fns_part (by kernel_rfl)
noncomputable def eL6 : List (Nat × Fn) := [(105,q105),(106,q106),(107,q107),(108,q108),(109,q109),(110,q110),(112,q112),(116,q116),(117,q117),(119,q119),(123,q123),(126,q126),(128,q128),(129,q129),(130,q130),(132,q132),(133,q133),(134,q134),(135,q135),(136,q136),(137,q137),(138,q138)]
theorem e6 : ∀ e, e ∈ eL6 → fnAt PP (tyIn tyT) (msIn msL) tsL e.1 = some e.2 := fns_part (by kernel_rfl)
noncomputable def eL7 : List (Nat × Fn) := [(139,q139),(140,q140),(141,q141),(142,q142),(143,q143),(144,q144),(146,q146),(147,q147),(148,q148),(149,q149),(150,q150),(151,q151),(152,q152),(153,q153),(155,q155),(156,q156),(157,q157),(159,q159),(160,q160),(162,q162),(164,q164),(166,q166),(167,q167),(168,q168),(169,q169),(170,q170),(171,q171),(172,q172),(173,q173)]
theorem e7 : ∀ e, e ∈ eL7 → fnAt PP (tyIn tyT) (msIn msL) tsL e.1 = some e.2 := fns_part (by kernel_rfl)
noncomputable def eL8 : List (Nat × Fn) := [(174,q174),(175,q175),(176,q176),(177,q177),(178,q178),(179,q179),(180,q180),(181,q181),(183,q183),(184,q184),(185,q185),(188,q188),(189,q189),(190,q190),(191,q191),(192,q192)]
theorem e8 : ∀ e, e ∈ eL8 → fnAt PP (tyIn tyT) (msIn msL) tsL e.1 = some e.2 := fns_part (by kernel_rfl)
noncomputable def eL9 : List (Nat × Fn) := [(199,q199),(200,q200),(201,q201),(203,q203),(204,q204),(205,q205),(206,q206),(208,q208),(210,q210),(212,q212),(215,q215),(216,q216),(217,q217),(223,q223),(224,q224),(225,q225),(226,q226),(228,q228),(229,q229),(230,q230),(233,q233),(234,q234),(236,q236),(237,q237),(238,q238),(239,q239),(240,q240)]
theorem e9 : ∀ e, e ∈ eL9 → fnAt PP (tyIn tyT) (msIn msL) tsL e.1 = some e.2 := fns_part (by kernel_rfl)
noncomputable def eL10 : List (Nat × Fn) := [(241,q241),(242,q242),(243,q243),(245,q245),(246,q246),(247,q247),(253,q253),(255,q255),(257,q257),(259,q259),(261,q261),(264,q264),(266,q266),(268,q268),(269,q269),(270,q270),(271,q271),(272,q272)]
theorem e10 : ∀ e, e ∈ eL10 → fnAt PP (tyIn tyT) (msIn msL) tsL e.1 = some e.2 := fns_part (by kernel_rfl)
noncomputable def eL11 : List (Nat × Fn) := [(273,q273),(274,q274),(275,q275),(276,q276),(277,q277),(278,q278),(280,q280),(281,q281),(282,q282),(283,q283),(288,q288),(292,q292),(299,q299),(300,q300),(301,q301),(311,q311),(312,q312),(313,q313),(324,q324),(326,q326)]
theorem e11 : ∀ e, e ∈ eL11 → fnAt PP (tyIn tyT) (msIn msL) tsL e.1 = some e.2 := fns_part (by kernel_rfl)
noncomputable def eL12 : List (Nat × Fn) := [(329,q329),(340,q340),(341,q341),(342,q342),(347,q347),(361,q361),(362,q362),(363,q363),(371,q371),(372,q372),(374,q374),(418,q418),(421,q421),(422,q422),(431,q431),(432,q432),(433,q433)]
theorem e12 : ∀ e, e ∈ eL12 → fnAt PP (tyIn tyT) (msIn msL) tsL e.1 = some e.2 := fns_part (by kernel_rfl)
noncomputable def eC : List (Nat × Fn) := eL0 ++ (eL1 ++ (eL2 ++ (eL3 ++ (eL4 ++ (eL5 ++ (eL6 ++ (eL7 ++ (eL8 ++ (eL9 ++ (eL10 ++ (eL11 ++ (eL12))))))))))))
theorem eC_at : ∀ e, e ∈ eC → fnAt PP (tyIn tyT) (msIn msL) tsL e.1 = some e.2 := all_of_parts e0 (all_of_parts e1 (all_of_parts e2 (all_of_parts e3 (all_of_parts e4 (all_of_parts e5 (all_of_parts e6 (all_of_parts e7 (all_of_parts e8 (all_of_parts e9 (all_of_parts e10 (all_of_parts e11 e12)))))))))))
noncomputable def eX : List (Nat × Fn) := [(182,q182),(231,q231),(232,q232),(248,q248),(360,q360),(373,q373),(383,q383),(384,q384),(385,q385),(386,q386),(388,q388),(389,q389)]
theorem eX_at : ∀ e, e ∈ eX → fnAt PP (tyIn tyT) (msIn msL) tsL e.1 = some e.2 := fns_part (by kernel_rfl)
noncomputable def eA : List (Nat × Fn) := eC ++ eX
theorem env_mk : env = mkT eA := by kernel_rfl
theorem eA_lt : (eA.all fun e => Nat.blt e.1 big) = true := by kernel_rfl
theorem eC_code : (eC.all fun e => !isExt e.2) = true := by kernel_rfl
theorem prg_ok : Prg (cx PP (msIn msL) (tyIn tyT) tsL) (tyIn tyT) tsL env := prg_of ty_ok ms_ok ts_ok env_mk eA_lt (all_of_parts eC_at eX_at) (by kernel_rfl)
end
end PH.R
