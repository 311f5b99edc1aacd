/-
  What the reckoner is told of the program is so.
-/
import Derived.Test.YtodjdcdbmbmbmaaGreatDoorRecC0
import Derived.Test.YtodjdcdbmbmbmaaGreatDoorProg
import Derived.KernelRfl
namespace PH.R
open Go Go.Proofs
set_option maxRecDepth 100000
noncomputable section
noncomputable abbrev PP : Program := Tryz.prog
theorem tyT_mk : tyT = mkT tyL := by kernel_rfl
theorem tyL_lt : (tyL.all fun e => Nat.blt e.1 big) = true := by kernel_rfl
theorem ty_ok : TyOk PP (tyIn tyT) := tyIn_ok tyT_mk tyL_lt (by kernel_rfl)
theorem ms_ok : MsOk (cx PP (msIn msL) (tyIn tyT) tsL) := msIn_ok ty_ok (by kernel_rfl)
theorem ts_ok : TsOk PP tsL := fun u e h => by cases h
noncomputable def eL0 : List (Nat × Fn) := [(4,q4),(6,q6),(7,q7),(8,q8),(9,q9),(10,q10),(11,q11),(12,q12),(14,q14),(15,q15),(16,q16),(17,q17),(18,q18),(19,q19),(20,q20),(21,q21),(22,q22),(23,q23)]
theorem e0 : ∀ e, e ∈ eL0 → fnAt PP (tyIn tyT) (msIn msL) tsL e.1 = some e.2 := fns_part (by kernel_rfl)
noncomputable def eL1 : List (Nat × Fn) := [(24,q24),(25,q25),(26,q26),(27,q27),(28,q28),(29,q29),(30,q30),(31,q31),(32,q32),(33,q33),(34,q34),(35,q35),(36,q36),(37,q37),(38,q38),(39,q39),(40,q40),(41,q41),(42,q42)]
theorem e1 : ∀ e, e ∈ eL1 → fnAt PP (tyIn tyT) (msIn msL) tsL e.1 = some e.2 := fns_part (by kernel_rfl)
noncomputable def eL2 : List (Nat × Fn) := [(43,q43),(44,q44),(45,q45),(46,q46),(47,q47),(48,q48),(49,q49),(50,q50),(51,q51),(52,q52),(53,q53),(54,q54),(55,q55),(56,q56),(57,q57),(58,q58),(59,q59)]
theorem e2 : ∀ e, e ∈ eL2 → fnAt PP (tyIn tyT) (msIn msL) tsL e.1 = some e.2 := fns_part (by kernel_rfl)
noncomputable def eL3 : List (Nat × Fn) := [(63,q63),(64,q64),(66,q66),(67,q67),(68,q68),(69,q69),(70,q70),(72,q72),(73,q73),(74,q74),(75,q75),(76,q76),(77,q77),(78,q78),(80,q80),(81,q81),(82,q82),(83,q83),(84,q84),(85,q85),(86,q86),(87,q87),(88,q88),(89,q89)]
theorem e3 : ∀ e, e ∈ eL3 → fnAt PP (tyIn tyT) (msIn msL) tsL e.1 = some e.2 := fns_part (by kernel_rfl)
noncomputable def eL4 : List (Nat × Fn) := [(90,q90),(91,q91),(92,q92),(93,q93),(94,q94),(95,q95),(96,q96),(97,q97),(98,q98),(99,q99),(100,q100),(101,q101),(102,q102),(103,q103),(104,q104),(105,q105),(106,q106)]
theorem e4 : ∀ e, e ∈ eL4 → fnAt PP (tyIn tyT) (msIn msL) tsL e.1 = some e.2 := fns_part (by kernel_rfl)
noncomputable def eL5 : List (Nat × Fn) := [(107,q107),(108,q108),(110,q110),(113,q113),(117,q117),(121,q121),(125,q125),(127,q127),(129,q129),(131,q131),(132,q132),(133,q133),(134,q134),(136,q136),(137,q137),(138,q138),(139,q139),(140,q140),(141,q141),(142,q142),(143,q143),(144,q144),(145,q145),(146,q146),(147,q147),(148,q148),(149,q149),(150,q150),(152,q152),(154,q154)]
theorem e5 : ∀ e, e ∈ eL5 → fnAt PP (tyIn tyT) (msIn msL) tsL e.1 = some e.2 := fns_part (by kernel_rfl)
noncomputable def eL6 : List (Nat × Fn) := [(155,q155),(156,q156),(157,q157),(158,q158),(159,q159),(160,q160),(161,q161),(162,q162),(163,q163),(164,q164),(166,q166),(167,q167),(168,q168),(171,q171),(172,q172),(173,q173),(174,q174),(185,q185)]
theorem e6 : ∀ e, e ∈ eL6 → fnAt PP (tyIn tyT) (msIn msL) tsL e.1 = some e.2 := fns_part (by kernel_rfl)
noncomputable def eL7 : List (Nat × Fn) := [(186,q186),(188,q188),(189,q189),(191,q191),(193,q193),(195,q195),(197,q197),(199,q199),(200,q200),(203,q203),(204,q204),(205,q205),(206,q206),(208,q208),(209,q209),(210,q210),(212,q212),(213,q213),(214,q214),(215,q215)]
theorem e7 : ∀ e, e ∈ eL7 → fnAt PP (tyIn tyT) (msIn msL) tsL e.1 = some e.2 := fns_part (by kernel_rfl)
noncomputable def eL8 : List (Nat × Fn) := [(224,q224),(225,q225),(232,q232),(233,q233),(234,q234),(237,q237),(238,q238),(239,q239),(241,q241),(243,q243),(245,q245),(247,q247),(248,q248),(250,q250),(252,q252),(253,q253),(254,q254),(256,q256),(259,q259),(263,q263),(264,q264),(265,q265),(267,q267)]
theorem e8 : ∀ e, e ∈ eL8 → fnAt PP (tyIn tyT) (msIn msL) tsL e.1 = some e.2 := fns_part (by kernel_rfl)
noncomputable def eL9 : List (Nat × Fn) := [(268,q268),(271,q271),(272,q272),(289,q289),(297,q297),(298,q298),(299,q299),(300,q300),(310,q310),(311,q311),(312,q312),(313,q313),(321,q321),(328,q328),(335,q335),(336,q336),(337,q337),(353,q353),(354,q354),(356,q356)]
theorem e9 : ∀ e, e ∈ eL9 → fnAt PP (tyIn tyT) (msIn msL) tsL e.1 = some e.2 := fns_part (by kernel_rfl)
noncomputable def eC : List (Nat × Fn) := eL0 ++ (eL1 ++ (eL2 ++ (eL3 ++ (eL4 ++ (eL5 ++ (eL6 ++ (eL7 ++ (eL8 ++ (eL9)))))))))
theorem eC_at : ∀ e, e ∈ eC → fnAt PP (tyIn tyT) (msIn msL) tsL e.1 = some e.2 := all_of_parts e0 (all_of_parts e1 (all_of_parts e2 (all_of_parts e3 (all_of_parts e4 (all_of_parts e5 (all_of_parts e6 (all_of_parts e7 (all_of_parts e8 e9))))))))
noncomputable def eX : List (Nat × Fn) := [(165,q165),(201,q201),(202,q202),(216,q216),(334,q334),(355,q355),(365,q365),(366,q366),(367,q367),(368,q368),(370,q370),(371,q371)]
theorem eX_at : ∀ e, e ∈ eX → fnAt PP (tyIn tyT) (msIn msL) tsL e.1 = some e.2 := fns_part (by kernel_rfl)
noncomputable def eA : List (Nat × Fn) := eC ++ eX
theorem env_mk : env = mkT eA := by kernel_rfl
theorem eA_lt : (eA.all fun e => Nat.blt e.1 big) = true := by kernel_rfl
theorem eC_code : (eC.all fun e => !isExt e.2) = true := by kernel_rfl
theorem prg_ok : Prg (cx PP (msIn msL) (tyIn tyT) tsL) (tyIn tyT) tsL env := prg_of ty_ok ms_ok ts_ok env_mk eA_lt (all_of_parts eC_at eX_at) (by kernel_rfl)
end
end PH.R
