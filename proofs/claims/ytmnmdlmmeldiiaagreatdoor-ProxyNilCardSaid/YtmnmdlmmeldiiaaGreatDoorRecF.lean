/-
  What the reckoner is told of the program is so.
-/
import Derived.Test.YtmnmdlmmeldiiaaGreatDoorRecC1
import Derived.Test.YtmnmdlmmeldiiaaGreatDoorRec
import Derived.Test.YtmnmdlmmeldiiaaGreatDoorProg
import Derived.KernelRfl
namespace PH.R
open Go Go.Proofs
set_option maxRecDepth 100000
noncomputable section
noncomputable abbrev PP : Program := Tryz.prog
theorem tyT_mk : tyT = mkT tyL := by kernel_rfl
theorem tyL_lt : (tyL.all fun e => Nat.blt e.1 big) = true := by kernel_rfl
theorem ty_ok : TyOk PP (tyIn tyT) := tyIn_ok tyT_mk tyL_lt (by kernel_rfl)
theorem ms_ok : MsOk (cx PP (msIn msL) (tyIn tyT) tsL) := msIn_ok ty_ok (by kernel_rfl)
theorem ts_ok : TsOk PP tsL := fun u e h => by cases h
noncomputable def eL0 : List (Nat × Fn) := [(4,q4),(5,q5),(10,q10),(11,q11),(12,q12),(13,q13),(14,q14),(15,q15),(17,q17),(18,q18),(19,q19)]
theorem e0 : ∀ e, e ∈ eL0 → fnAt PP (tyIn tyT) (msIn msL) tsL e.1 = some e.2 := fns_part (by kernel_rfl)
noncomputable def eL1 : List (Nat × Fn) := [(20,q20),(21,q21),(22,q22),(23,q23),(24,q24),(25,q25),(26,q26),(27,q27),(30,q30)]
theorem e1 : ∀ e, e ∈ eL1 → fnAt PP (tyIn tyT) (msIn msL) tsL e.1 = some e.2 := fns_part (by kernel_rfl)
noncomputable def eL2 : List (Nat × Fn) := [(35,q35),(36,q36),(37,q37),(38,q38),(39,q39),(40,q40),(41,q41),(43,q43),(44,q44),(45,q45),(46,q46),(47,q47),(49,q49),(50,q50),(51,q51),(52,q52),(56,q56),(57,q57),(58,q58),(59,q59),(60,q60)]
theorem e2 : ∀ e, e ∈ eL2 → fnAt PP (tyIn tyT) (msIn msL) tsL e.1 = some e.2 := fns_part (by kernel_rfl)
noncomputable def eL3 : List (Nat × Fn) := [(61,q61),(62,q62),(63,q63),(64,q64),(65,q65),(67,q67),(68,q68),(69,q69),(70,q70),(71,q71),(72,q72)]
theorem e3 : ∀ e, e ∈ eL3 → fnAt PP (tyIn tyT) (msIn msL) tsL e.1 = some e.2 := fns_part (by kernel_rfl)
noncomputable def eL4 : List (Nat × Fn) := [(73,q73),(74,q74),(75,q75),(76,q76),(77,q77),(78,q78),(79,q79),(84,q84),(85,q85),(87,q87),(88,q88),(89,q89)]
theorem e4 : ∀ e, e ∈ eL4 → fnAt PP (tyIn tyT) (msIn msL) tsL e.1 = some e.2 := fns_part (by kernel_rfl)
noncomputable def eL5 : List (Nat × Fn) := [(92,q92),(93,q93),(94,q94),(95,q95),(96,q96),(97,q97),(98,q98),(99,q99),(100,q100),(101,q101),(102,q102),(103,q103),(104,q104),(105,q105),(106,q106),(107,q107)]
theorem e5 : ∀ e, e ∈ eL5 → fnAt PP (tyIn tyT) (msIn msL) tsL e.1 = some e.2 := fns_part (by kernel_rfl)
noncomputable def eL6 : List (Nat × Fn) := [(108,q108),(113,q113),(114,q114),(115,q115),(116,q116),(117,q117),(118,q118),(121,q121),(122,q122),(123,q123),(124,q124),(126,q126),(127,q127),(128,q128),(129,q129),(130,q130),(131,q131),(132,q132),(133,q133)]
theorem e6 : ∀ e, e ∈ eL6 → fnAt PP (tyIn tyT) (msIn msL) tsL e.1 = some e.2 := fns_part (by kernel_rfl)
noncomputable def eL7 : List (Nat × Fn) := [(134,q134),(135,q135),(136,q136),(137,q137),(139,q139),(140,q140),(141,q141),(142,q142),(143,q143),(144,q144),(145,q145),(147,q147),(152,q152),(153,q153),(154,q154),(155,q155),(156,q156),(157,q157),(158,q158),(159,q159),(160,q160),(161,q161)]
theorem e7 : ∀ e, e ∈ eL7 → fnAt PP (tyIn tyT) (msIn msL) tsL e.1 = some e.2 := fns_part (by kernel_rfl)
noncomputable def eL8 : List (Nat × Fn) := [(162,q162),(163,q163),(164,q164),(168,q168),(169,q169),(170,q170),(171,q171),(174,q174),(175,q175),(176,q176),(177,q177)]
theorem e8 : ∀ e, e ∈ eL8 → fnAt PP (tyIn tyT) (msIn msL) tsL e.1 = some e.2 := fns_part (by kernel_rfl)
noncomputable def eL9 : List (Nat × Fn) := [(178,q178),(179,q179),(181,q181),(182,q182),(183,q183),(184,q184),(185,q185),(186,q186),(187,q187),(188,q188),(189,q189),(190,q190),(191,q191),(192,q192),(193,q193),(194,q194),(195,q195)]
theorem e9 : ∀ e, e ∈ eL9 → fnAt PP (tyIn tyT) (msIn msL) tsL e.1 = some e.2 := fns_part (by kernel_rfl)
noncomputable def eL10 : List (Nat × Fn) := [(196,q196),(198,q198),(202,q202),(206,q206),(210,q210),(213,q213),(222,q222),(224,q224),(225,q225),(226,q226),(227,q227),(228,q228),(229,q229),(230,q230),(231,q231),(232,q232),(233,q233),(234,q234),(235,q235),(238,q238),(245,q245),(246,q246),(250,q250),(251,q251),(253,q253),(254,q254),(257,q257),(264,q264),(266,q266),(267,q267)]
theorem e10 : ∀ e, e ∈ eL10 → fnAt PP (tyIn tyT) (msIn msL) tsL e.1 = some e.2 := fns_part (by kernel_rfl)
noncomputable def eL11 : List (Nat × Fn) := [(270,q270),(271,q271),(283,q283),(284,q284),(285,q285),(286,q286),(292,q292),(293,q293),(294,q294),(295,q295),(296,q296),(300,q300),(302,q302)]
theorem e11 : ∀ e, e ∈ eL11 → fnAt PP (tyIn tyT) (msIn msL) tsL e.1 = some e.2 := fns_part (by kernel_rfl)
noncomputable def eL12 : List (Nat × Fn) := [(303,q303),(304,q304),(306,q306),(307,q307),(308,q308),(315,q315),(316,q316),(317,q317),(318,q318),(324,q324),(326,q326),(327,q327),(328,q328),(329,q329),(331,q331),(334,q334),(338,q338),(339,q339),(340,q340),(341,q341),(353,q353)]
theorem e12 : ∀ e, e ∈ eL12 → fnAt PP (tyIn tyT) (msIn msL) tsL e.1 = some e.2 := fns_part (by kernel_rfl)
noncomputable def eL13 : List (Nat × Fn) := [(364,q364),(372,q372),(377,q377),(378,q378),(379,q379),(382,q382),(383,q383),(384,q384),(387,q387),(388,q388),(399,q399),(400,q400),(401,q401),(411,q411),(428,q428),(429,q429),(430,q430)]
theorem e13 : ∀ e, e ∈ eL13 → fnAt PP (tyIn tyT) (msIn msL) tsL e.1 = some e.2 := fns_part (by kernel_rfl)
noncomputable def eL14 : List (Nat × Fn) := [(436,q436),(442,q442),(443,q443),(468,q468),(469,q469),(487,q487),(512,q512),(513,q513),(514,q514),(554,q554),(555,q555),(556,q556),(575,q575),(576,q576),(578,q578)]
theorem e14 : ∀ e, e ∈ eL14 → fnAt PP (tyIn tyT) (msIn msL) tsL e.1 = some e.2 := fns_part (by kernel_rfl)
noncomputable def eC : List (Nat × Fn) := eL0 ++ (eL1 ++ (eL2 ++ (eL3 ++ (eL4 ++ (eL5 ++ (eL6 ++ (eL7 ++ (eL8 ++ (eL9 ++ (eL10 ++ (eL11 ++ (eL12 ++ (eL13 ++ (eL14))))))))))))))
theorem eC_at : ∀ e, e ∈ eC → fnAt PP (tyIn tyT) (msIn msL) tsL e.1 = some e.2 := all_of_parts e0 (all_of_parts e1 (all_of_parts e2 (all_of_parts e3 (all_of_parts e4 (all_of_parts e5 (all_of_parts e6 (all_of_parts e7 (all_of_parts e8 (all_of_parts e9 (all_of_parts e10 (all_of_parts e11 (all_of_parts e12 (all_of_parts e13 e14)))))))))))))
noncomputable def eX : List (Nat × Fn) := [(301,q301),(389,q389),(397,q397),(398,q398),(553,q553),(577,q577),(594,q594),(595,q595),(596,q596),(597,q597),(599,q599),(600,q600)]
theorem eX_at : ∀ e, e ∈ eX → fnAt PP (tyIn tyT) (msIn msL) tsL e.1 = some e.2 := fns_part (by kernel_rfl)
noncomputable def eA : List (Nat × Fn) := eC ++ eX
theorem env_mk : env = mkT eA := by kernel_rfl
theorem eA_lt : (eA.all fun e => Nat.blt e.1 big) = true := by kernel_rfl
theorem eC_code : (eC.all fun e => !isExt e.2) = true := by kernel_rfl
theorem prg_ok : Prg (cx PP (msIn msL) (tyIn tyT) tsL) (tyIn tyT) tsL env := prg_of ty_ok ms_ok ts_ok env_mk eA_lt (all_of_parts eC_at eX_at) (by kernel_rfl)
end
end PH.R
