/-
  What the reckoner is told of the program is so.
-/
import Derived.Test.YtjmfclhilmmamaaGreatDoorRecC1
import Derived.Test.YtjmfclhilmmamaaGreatDoorProg
import Derived.KernelRfl
namespace PH.R
open Go Go.Proofs
set_option maxRecDepth 100000
noncomputable section
noncomputable abbrev PP : Program := Tryz.prog
theorem tyT_mk : tyT = mkT tyL := by kernel_rfl
theorem tyL_lt : (tyL.all fun e => Nat.blt e.1 big) = true := by kernel_rfl
theorem ty_ok : TyOk PP (tyIn tyT) := tyIn_ok tyT_mk tyL_lt (by kernel_rfl)
theorem ms_ok : MsOk (cx PP (msIn msL) (tyIn tyT) tsL) := msIn_ok ty_ok (by kernel_rfl)
theorem ts_ok : TsOk PP tsL := fun u e h => by cases h
noncomputable def eL0 : List (Nat × Fn) := [(5,q5),(7,q7),(10,q10),(12,q12),(14,q14),(15,q15),(16,q16),(17,q17),(18,q18),(19,q19),(34,q34),(36,q36),(38,q38),(39,q39),(40,q40),(41,q41),(42,q42)]
theorem e0 : ∀ e, e ∈ eL0 → fnAt PP (tyIn tyT) (msIn msL) tsL e.1 = some e.2 := fns_part (by kernel_rfl)
noncomputable def eL1 : List (Nat × Fn) := [(43,q43),(44,q44),(45,q45),(48,q48),(52,q52),(63,q63),(64,q64),(66,q66),(67,q67),(68,q68),(69,q69),(70,q70),(71,q71),(72,q72),(73,q73)]
theorem e1 : ∀ e, e ∈ eL1 → fnAt PP (tyIn tyT) (msIn msL) tsL e.1 = some e.2 := fns_part (by kernel_rfl)
noncomputable def eL2 : List (Nat × Fn) := [(74,q74),(75,q75),(76,q76),(77,q77),(78,q78),(79,q79),(80,q80),(81,q81),(82,q82),(83,q83),(84,q84),(85,q85),(86,q86),(87,q87),(88,q88)]
theorem e2 : ∀ e, e ∈ eL2 → fnAt PP (tyIn tyT) (msIn msL) tsL e.1 = some e.2 := fns_part (by kernel_rfl)
noncomputable def eL3 : List (Nat × Fn) := [(89,q89),(90,q90),(91,q91),(92,q92),(93,q93),(94,q94),(97,q97),(98,q98),(99,q99),(103,q103),(108,q108),(113,q113),(117,q117),(119,q119),(120,q120),(122,q122),(123,q123),(124,q124),(125,q125),(126,q126),(127,q127),(129,q129),(130,q130)]
theorem e3 : ∀ e, e ∈ eL3 → fnAt PP (tyIn tyT) (msIn msL) tsL e.1 = some e.2 := fns_part (by kernel_rfl)
noncomputable def eL4 : List (Nat × Fn) := [(131,q131),(132,q132),(133,q133),(134,q134),(135,q135),(136,q136),(137,q137),(138,q138),(139,q139),(140,q140),(141,q141),(142,q142),(143,q143),(144,q144),(145,q145),(146,q146),(147,q147),(148,q148),(149,q149),(150,q150)]
theorem e4 : ∀ e, e ∈ eL4 → fnAt PP (tyIn tyT) (msIn msL) tsL e.1 = some e.2 := fns_part (by kernel_rfl)
noncomputable def eL5 : List (Nat × Fn) := [(151,q151),(152,q152),(153,q153),(154,q154),(155,q155),(156,q156),(158,q158),(161,q161),(162,q162),(163,q163),(164,q164),(167,q167),(170,q170),(171,q171),(172,q172),(174,q174),(175,q175),(176,q176),(177,q177)]
theorem e5 : ∀ e, e ∈ eL5 → fnAt PP (tyIn tyT) (msIn msL) tsL e.1 = some e.2 := fns_part (by kernel_rfl)
noncomputable def eL6 : List (Nat × Fn) := [(178,q178),(179,q179),(180,q180),(192,q192),(193,q193),(195,q195),(196,q196),(199,q199),(202,q202),(204,q204),(206,q206),(207,q207),(208,q208),(209,q209),(210,q210),(211,q211),(212,q212),(213,q213),(214,q214),(215,q215)]
theorem e6 : ∀ e, e ∈ eL6 → fnAt PP (tyIn tyT) (msIn msL) tsL e.1 = some e.2 := fns_part (by kernel_rfl)
noncomputable def eL7 : List (Nat × Fn) := [(216,q216),(217,q217),(218,q218),(219,q219),(221,q221),(222,q222),(223,q223),(226,q226),(227,q227),(228,q228),(229,q229),(230,q230),(231,q231),(232,q232),(233,q233),(234,q234),(236,q236),(237,q237),(238,q238),(240,q240),(246,q246),(247,q247),(248,q248),(254,q254)]
theorem e7 : ∀ e, e ∈ eL7 → fnAt PP (tyIn tyT) (msIn msL) tsL e.1 = some e.2 := fns_part (by kernel_rfl)
noncomputable def eL8 : List (Nat × Fn) := [(255,q255),(256,q256),(259,q259),(260,q260),(262,q262),(264,q264),(266,q266),(267,q267),(268,q268),(269,q269),(270,q270),(271,q271),(272,q272),(274,q274),(275,q275),(276,q276),(278,q278)]
theorem e8 : ∀ e, e ∈ eL8 → fnAt PP (tyIn tyT) (msIn msL) tsL e.1 = some e.2 := fns_part (by kernel_rfl)
noncomputable def eL9 : List (Nat × Fn) := [(279,q279),(281,q281),(282,q282),(283,q283),(285,q285),(290,q290),(292,q292),(293,q293),(294,q294),(295,q295),(296,q296),(297,q297),(298,q298),(299,q299),(301,q301),(302,q302),(304,q304),(305,q305),(306,q306),(307,q307),(309,q309),(316,q316),(317,q317)]
theorem e9 : ∀ e, e ∈ eL9 → fnAt PP (tyIn tyT) (msIn msL) tsL e.1 = some e.2 := fns_part (by kernel_rfl)
noncomputable def eL10 : List (Nat × Fn) := [(318,q318),(319,q319),(321,q321),(323,q323),(324,q324),(325,q325),(335,q335),(336,q336),(337,q337),(348,q348),(349,q349),(353,q353),(354,q354),(358,q358),(364,q364),(365,q365),(366,q366),(371,q371),(379,q379),(382,q382)]
theorem e10 : ∀ e, e ∈ eL10 → fnAt PP (tyIn tyT) (msIn msL) tsL e.1 = some e.2 := fns_part (by kernel_rfl)
noncomputable def eL11 : List (Nat × Fn) := [(385,q385),(386,q386),(387,q387),(395,q395),(396,q396),(398,q398)]
theorem e11 : ∀ e, e ∈ eL11 → fnAt PP (tyIn tyT) (msIn msL) tsL e.1 = some e.2 := fns_part (by kernel_rfl)
noncomputable def eC : List (Nat × Fn) := eL0 ++ (eL1 ++ (eL2 ++ (eL3 ++ (eL4 ++ (eL5 ++ (eL6 ++ (eL7 ++ (eL8 ++ (eL9 ++ (eL10 ++ (eL11)))))))))))
theorem eC_at : ∀ e, e ∈ eC → fnAt PP (tyIn tyT) (msIn msL) tsL e.1 = some e.2 := all_of_parts e0 (all_of_parts e1 (all_of_parts e2 (all_of_parts e3 (all_of_parts e4 (all_of_parts e5 (all_of_parts e6 (all_of_parts e7 (all_of_parts e8 (all_of_parts e9 (all_of_parts e10 e11))))))))))
noncomputable def eX : List (Nat × Fn) := [(200,q200),(220,q220),(263,q263),(277,q277),(384,q384),(397,q397),(407,q407),(408,q408),(409,q409),(410,q410),(412,q412),(413,q413)]
theorem eX_at : ∀ e, e ∈ eX → fnAt PP (tyIn tyT) (msIn msL) tsL e.1 = some e.2 := fns_part (by kernel_rfl)
noncomputable def eA : List (Nat × Fn) := eC ++ eX
theorem env_mk : env = mkT eA := by kernel_rfl
theorem eA_lt : (eA.all fun e => Nat.blt e.1 big) = true := by kernel_rfl
theorem eC_code : (eC.all fun e => !isExt e.2) = true := by kernel_rfl
theorem prg_ok : Prg (cx PP (msIn msL) (tyIn tyT) tsL) (tyIn tyT) tsL env := prg_of ty_ok ms_ok ts_ok env_mk eA_lt (all_of_parts eC_at eX_at) (by kernel_rfl)
end
end PH.R
