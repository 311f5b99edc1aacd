/-
  What the reckoner is told of the program is so.
-/
import Derived.Test.YtmpfckdagibfiaaGreatDoorRecC1
import Derived.Test.YtmpfckdagibfiaaGreatDoorProg
import Derived.KernelRfl
namespace PH.R
open Go Go.Proofs
set_option maxRecDepth 100000
noncomputable section
noncomputable abbrev PP : Program := Tryz.prog
theorem tyT_mk : tyT = mkT tyL := by kernel_rfl
theorem tyL_lt : (tyL.all fun e => Nat.blt e.1 big) = true := by kernel_rfl
theorem ty_ok : TyOk PP (tyIn tyT) := tyIn_ok tyT_mk tyL_lt (by kernel_rfl)
theorem ms_ok : MsOk (cx PP (msIn msL) (tyIn tyT) tsL) := msIn_ok ty_ok (by kernel_rfl)
theorem ts_ok : TsOk PP tsL := fun u e h => by cases h
noncomputable def eL0 : List (Nat × Fn) := [(5,q5),(6,q6),(9,q9),(10,q10),(11,q11),(12,q12),(13,q13),(14,q14),(15,q15),(17,q17),(18,q18),(19,q19),(20,q20)]
theorem e0 : ∀ e, e ∈ eL0 → fnAt PP (tyIn tyT) (msIn msL) tsL e.1 = some e.2 := fns_part (by kernel_rfl)
noncomputable def eL1 : List (Nat × Fn) := [(21,q21),(22,q22),(23,q23),(25,q25),(26,q26),(27,q27),(28,q28),(29,q29),(30,q30),(31,q31)]
theorem e1 : ∀ e, e ∈ eL1 → fnAt PP (tyIn tyT) (msIn msL) tsL e.1 = some e.2 := fns_part (by kernel_rfl)
noncomputable def eL2 : List (Nat × Fn) := [(32,q32),(33,q33),(34,q34),(35,q35),(36,q36),(37,q37),(38,q38),(39,q39),(40,q40),(41,q41),(42,q42),(43,q43),(44,q44),(45,q45),(47,q47),(49,q49),(53,q53)]
theorem e2 : ∀ e, e ∈ eL2 → fnAt PP (tyIn tyT) (msIn msL) tsL e.1 = some e.2 := fns_part (by kernel_rfl)
noncomputable def eL3 : List (Nat × Fn) := [(54,q54),(55,q55),(56,q56),(57,q57),(58,q58),(59,q59),(60,q60),(61,q61),(62,q62),(63,q63),(64,q64),(65,q65),(66,q66),(67,q67),(68,q68),(69,q69),(70,q70),(71,q71)]
theorem e3 : ∀ e, e ∈ eL3 → fnAt PP (tyIn tyT) (msIn msL) tsL e.1 = some e.2 := fns_part (by kernel_rfl)
noncomputable def eL4 : List (Nat × Fn) := [(72,q72),(75,q75),(76,q76),(77,q77),(78,q78),(79,q79),(80,q80),(81,q81),(82,q82),(83,q83),(84,q84),(85,q85),(86,q86),(87,q87),(88,q88),(89,q89),(90,q90),(91,q91),(92,q92),(93,q93),(94,q94),(95,q95)]
theorem e4 : ∀ e, e ∈ eL4 → fnAt PP (tyIn tyT) (msIn msL) tsL e.1 = some e.2 := fns_part (by kernel_rfl)
noncomputable def eL5 : List (Nat × Fn) := [(96,q96),(100,q100),(101,q101),(104,q104),(106,q106),(107,q107),(108,q108),(109,q109),(110,q110),(111,q111),(112,q112),(113,q113),(114,q114),(115,q115),(116,q116),(117,q117),(118,q118),(119,q119),(120,q120)]
theorem e5 : ∀ e, e ∈ eL5 → fnAt PP (tyIn tyT) (msIn msL) tsL e.1 = some e.2 := fns_part (by kernel_rfl)
noncomputable def eL6 : List (Nat × Fn) := [(121,q121),(122,q122),(123,q123),(124,q124),(125,q125),(126,q126),(127,q127),(128,q128),(129,q129),(130,q130),(131,q131),(132,q132),(133,q133),(135,q135),(139,q139),(140,q140),(142,q142),(145,q145),(148,q148),(150,q150)]
theorem e6 : ∀ e, e ∈ eL6 → fnAt PP (tyIn tyT) (msIn msL) tsL e.1 = some e.2 := fns_part (by kernel_rfl)
noncomputable def eL7 : List (Nat × Fn) := [(152,q152),(153,q153),(154,q154),(155,q155),(156,q156),(157,q157),(158,q158),(159,q159),(160,q160),(161,q161),(162,q162),(163,q163),(164,q164),(165,q165),(167,q167),(168,q168),(169,q169),(170,q170),(176,q176),(178,q178),(179,q179),(180,q180),(181,q181),(182,q182),(183,q183),(184,q184)]
theorem e7 : ∀ e, e ∈ eL7 → fnAt PP (tyIn tyT) (msIn msL) tsL e.1 = some e.2 := fns_part (by kernel_rfl)
noncomputable def eL8 : List (Nat × Fn) := [(185,q185),(186,q186),(187,q187),(188,q188),(189,q189),(190,q190),(191,q191),(193,q193),(194,q194),(195,q195),(198,q198),(199,q199),(200,q200),(201,q201),(202,q202),(203,q203),(208,q208)]
theorem e8 : ∀ e, e ∈ eL8 → fnAt PP (tyIn tyT) (msIn msL) tsL e.1 = some e.2 := fns_part (by kernel_rfl)
noncomputable def eL9 : List (Nat × Fn) := [(209,q209),(211,q211),(212,q212),(213,q213),(214,q214),(215,q215),(216,q216),(217,q217),(218,q218),(219,q219),(220,q220),(221,q221),(222,q222),(223,q223),(224,q224),(226,q226),(227,q227),(228,q228),(229,q229),(233,q233),(235,q235),(236,q236),(237,q237),(238,q238)]
theorem e9 : ∀ e, e ∈ eL9 → fnAt PP (tyIn tyT) (msIn msL) tsL e.1 = some e.2 := fns_part (by kernel_rfl)
noncomputable def eL10 : List (Nat × Fn) := [(239,q239),(240,q240),(241,q241),(242,q242),(244,q244),(245,q245),(246,q246),(247,q247),(252,q252),(254,q254),(255,q255),(257,q257),(258,q258),(260,q260),(262,q262),(264,q264),(266,q266)]
theorem e10 : ∀ e, e ∈ eL10 → fnAt PP (tyIn tyT) (msIn msL) tsL e.1 = some e.2 := fns_part (by kernel_rfl)
noncomputable def eL11 : List (Nat × Fn) := [(268,q268),(270,q270),(272,q272),(273,q273),(274,q274),(275,q275),(276,q276),(277,q277),(279,q279),(280,q280),(281,q281),(282,q282),(284,q284),(286,q286),(287,q287),(289,q289),(290,q290),(296,q296),(297,q297),(298,q298),(300,q300),(301,q301)]
theorem e11 : ∀ e, e ∈ eL11 → fnAt PP (tyIn tyT) (msIn msL) tsL e.1 = some e.2 := fns_part (by kernel_rfl)
noncomputable def eL12 : List (Nat × Fn) := [(302,q302),(304,q304),(306,q306),(308,q308),(311,q311),(312,q312),(326,q326),(330,q330),(337,q337),(338,q338),(339,q339),(340,q340),(341,q341),(342,q342),(343,q343),(345,q345),(346,q346),(347,q347),(353,q353),(356,q356),(362,q362),(363,q363)]
theorem e12 : ∀ e, e ∈ eL12 → fnAt PP (tyIn tyT) (msIn msL) tsL e.1 = some e.2 := fns_part (by kernel_rfl)
noncomputable def eL13 : List (Nat × Fn) := [(364,q364),(365,q365),(375,q375),(377,q377),(378,q378),(379,q379),(399,q399),(400,q400),(402,q402)]
theorem e13 : ∀ e, e ∈ eL13 → fnAt PP (tyIn tyT) (msIn msL) tsL e.1 = some e.2 := fns_part (by kernel_rfl)
noncomputable def eC : List (Nat × Fn) := eL0 ++ (eL1 ++ (eL2 ++ (eL3 ++ (eL4 ++ (eL5 ++ (eL6 ++ (eL7 ++ (eL8 ++ (eL9 ++ (eL10 ++ (eL11 ++ (eL12 ++ (eL13)))))))))))))
theorem eC_at : ∀ e, e ∈ eC → fnAt PP (tyIn tyT) (msIn msL) tsL e.1 = some e.2 := all_of_parts e0 (all_of_parts e1 (all_of_parts e2 (all_of_parts e3 (all_of_parts e4 (all_of_parts e5 (all_of_parts e6 (all_of_parts e7 (all_of_parts e8 (all_of_parts e9 (all_of_parts e10 (all_of_parts e11 (all_of_parts e12 e13))))))))))))
noncomputable def eX : List (Nat × Fn) := [(166,q166),(192,q192),(232,q232),(248,q248),(376,q376),(401,q401),(412,q412),(413,q413),(414,q414),(415,q415),(417,q417),(418,q418)]
theorem eX_at : ∀ e, e ∈ eX → fnAt PP (tyIn tyT) (msIn msL) tsL e.1 = some e.2 := fns_part (by kernel_rfl)
noncomputable def eA : List (Nat × Fn) := eC ++ eX
theorem env_mk : env = mkT eA := by kernel_rfl
theorem eA_lt : (eA.all fun e => Nat.blt e.1 big) = true := by kernel_rfl
theorem eC_code : (eC.all fun e => !isExt e.2) = true := by kernel_rfl
theorem prg_ok : Prg (cx PP (msIn msL) (tyIn tyT) tsL) (tyIn tyT) tsL env := prg_of ty_ok ms_ok ts_ok env_mk eA_lt (all_of_parts eC_at eX_at) (by kernel_rfl)
end
end PH.R
