/-
  What the reckoner is told of the program is so.
-/
import Derived.Test.YtnpkpbgfnfkadaaGreatDoorRecC1
import Derived.Test.YtnpkpbgfnfkadaaGreatDoorProg
import Derived.KernelRfl
namespace PH.R
open Go Go.Proofs
set_option maxRecDepth 100000
noncomputable section
noncomputable abbrev PP : Program := Tryz.prog
theorem tyT_mk : tyT = mkT tyL := by kernel_rfl
theorem tyL_lt : (tyL.all fun e => Nat.blt e.1 big) = true := by kernel_rfl
theorem ty_ok : TyOk PP (tyIn tyT) := tyIn_ok tyT_mk tyL_lt (by kernel_rfl)
theorem ms_ok : MsOk (cx PP (msIn msL) (tyIn tyT) tsL) := msIn_ok ty_ok (by kernel_rfl)
theorem ts_ok : TsOk PP tsL := fun u e h => by cases h
noncomputable def eL0 : List (Nat × Fn) := [(4,q4),(5,q5),(6,q6),(8,q8),(9,q9),(10,q10),(12,q12),(14,q14),(17,q17),(18,q18),(19,q19),(20,q20),(21,q21)]
theorem e0 : ∀ e, e ∈ eL0 → fnAt PP (tyIn tyT) (msIn msL) tsL e.1 = some e.2 := fns_part (by kernel_rfl)
noncomputable def eL1 : List (Nat × Fn) := [(22,q22),(23,q23),(24,q24),(25,q25),(26,q26),(27,q27),(28,q28),(29,q29),(31,q31),(33,q33),(34,q34),(35,q35),(36,q36),(37,q37),(38,q38),(39,q39)]
theorem e1 : ∀ e, e ∈ eL1 → fnAt PP (tyIn tyT) (msIn msL) tsL e.1 = some e.2 := fns_part (by kernel_rfl)
noncomputable def eL2 : List (Nat × Fn) := [(40,q40),(41,q41),(42,q42),(43,q43),(44,q44),(45,q45),(46,q46),(47,q47),(48,q48),(52,q52),(58,q58),(59,q59),(60,q60),(61,q61),(62,q62),(63,q63),(64,q64),(65,q65),(66,q66),(67,q67),(68,q68),(69,q69),(70,q70),(71,q71),(72,q72)]
theorem e2 : ∀ e, e ∈ eL2 → fnAt PP (tyIn tyT) (msIn msL) tsL e.1 = some e.2 := fns_part (by kernel_rfl)
noncomputable def eL3 : List (Nat × Fn) := [(73,q73),(74,q74),(75,q75),(76,q76),(77,q77),(78,q78),(79,q79),(80,q80),(81,q81),(82,q82),(83,q83),(86,q86),(87,q87),(88,q88),(89,q89),(90,q90),(91,q91),(92,q92),(93,q93),(94,q94),(95,q95)]
theorem e3 : ∀ e, e ∈ eL3 → fnAt PP (tyIn tyT) (msIn msL) tsL e.1 = some e.2 := fns_part (by kernel_rfl)
noncomputable def eL4 : List (Nat × Fn) := [(96,q96),(97,q97),(98,q98),(99,q99),(100,q100),(101,q101),(102,q102),(103,q103),(104,q104),(105,q105),(106,q106),(107,q107),(108,q108),(110,q110),(111,q111),(114,q114),(115,q115),(116,q116)]
theorem e4 : ∀ e, e ∈ eL4 → fnAt PP (tyIn tyT) (msIn msL) tsL e.1 = some e.2 := fns_part (by kernel_rfl)
noncomputable def eL5 : List (Nat × Fn) := [(117,q117),(118,q118),(119,q119),(120,q120),(121,q121),(122,q122),(123,q123),(124,q124),(125,q125),(126,q126),(127,q127),(129,q129),(130,q130),(131,q131),(132,q132)]
theorem e5 : ∀ e, e ∈ eL5 → fnAt PP (tyIn tyT) (msIn msL) tsL e.1 = some e.2 := fns_part (by kernel_rfl)
noncomputable def eL6 : List (Nat × Fn) := [(136,q136),(138,q138),(139,q139),(140,q140),(141,q141),(143,q143),(145,q145),(146,q146),(147,q147),(148,q148),(149,q149),(150,q150),(151,q151),(154,q154),(155,q155),(156,q156),(158,q158),(159,q159)]
theorem e6 : ∀ e, e ∈ eL6 → fnAt PP (tyIn tyT) (msIn msL) tsL e.1 = some e.2 := fns_part (by kernel_rfl)
noncomputable def eL7 : List (Nat × Fn) := [(160,q160),(161,q161),(162,q162),(163,q163),(164,q164),(165,q165),(166,q166),(167,q167),(168,q168),(169,q169),(170,q170),(171,q171),(174,q174),(176,q176),(177,q177),(178,q178),(180,q180),(182,q182),(185,q185),(186,q186)]
theorem e7 : ∀ e, e ∈ eL7 → fnAt PP (tyIn tyT) (msIn msL) tsL e.1 = some e.2 := fns_part (by kernel_rfl)
noncomputable def eL8 : List (Nat × Fn) := [(187,q187),(188,q188),(189,q189),(190,q190),(191,q191),(192,q192),(196,q196),(197,q197),(198,q198),(199,q199),(200,q200),(201,q201),(207,q207),(217,q217),(218,q218),(219,q219),(220,q220),(224,q224),(226,q226),(227,q227),(228,q228),(229,q229),(230,q230)]
theorem e8 : ∀ e, e ∈ eL8 → fnAt PP (tyIn tyT) (msIn msL) tsL e.1 = some e.2 := fns_part (by kernel_rfl)
noncomputable def eL9 : List (Nat × Fn) := [(231,q231),(241,q241),(242,q242),(243,q243),(248,q248),(254,q254),(255,q255),(261,q261),(262,q262),(268,q268),(269,q269),(270,q270),(281,q281),(284,q284),(287,q287),(288,q288),(289,q289),(298,q298),(299,q299),(301,q301)]
theorem e9 : ∀ e, e ∈ eL9 → fnAt PP (tyIn tyT) (msIn msL) tsL e.1 = some e.2 := fns_part (by kernel_rfl)
noncomputable def eC : List (Nat × Fn) := eL0 ++ (eL1 ++ (eL2 ++ (eL3 ++ (eL4 ++ (eL5 ++ (eL6 ++ (eL7 ++ (eL8 ++ (eL9)))))))))
theorem eC_at : ∀ e, e ∈ eC → fnAt PP (tyIn tyT) (msIn msL) tsL e.1 = some e.2 := all_of_parts e0 (all_of_parts e1 (all_of_parts e2 (all_of_parts e3 (all_of_parts e4 (all_of_parts e5 (all_of_parts e6 (all_of_parts e7 (all_of_parts e8 e9))))))))
noncomputable def eX : List (Nat × Fn) := [(133,q133),(142,q142),(194,q194),(195,q195),(286,q286),(300,q300),(307,q307),(308,q308),(309,q309),(310,q310),(312,q312),(313,q313)]
theorem eX_at : ∀ e, e ∈ eX → fnAt PP (tyIn tyT) (msIn msL) tsL e.1 = some e.2 := fns_part (by kernel_rfl)
noncomputable def eA : List (Nat × Fn) := eC ++ eX
theorem env_mk : env = mkT eA := by kernel_rfl
theorem eA_lt : (eA.all fun e => Nat.blt e.1 big) = true := by kernel_rfl
theorem eC_code : (eC.all fun e => !isExt e.2) = true := by kernel_rfl
theorem prg_ok : Prg (cx PP (msIn msL) (tyIn tyT) tsL) (tyIn tyT) tsL env := prg_of ty_ok ms_ok ts_ok env_mk eA_lt (all_of_parts eC_at eX_at) (by kernel_rfl)
end
end PH.R
