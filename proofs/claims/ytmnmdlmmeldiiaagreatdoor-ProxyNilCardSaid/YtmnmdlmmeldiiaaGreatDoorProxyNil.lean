/-
  The statement 'ProxyNilCardSaid', proved: 'posthouselaw32.ProxyNil' answers true at every input, and the input reads as it did. No condition but that two tables of Go's library (utf8.first, utf8.acceptRanges) hold at the start what the library's text lays: the card ties it. (The frame is as the kit's shell program prints it.)
-/
import Derived.Test.YtmnmdlmmeldiiaaGreatDoorProxyNilb
import Derived.Test.YtmnmdlmmeldiiaaGreatDoorProxyNilc
import Derived.Test.YtmnmdlmmeldiiaaGreatDoorProxyNild
import Derived.Test.YtmnmdlmmeldiiaaGreatDoorProxyNile
import Derived.Test.YtmnmdlmmeldiiaaGreatDoorRows
import Derived.Test.YtmnmdlmmeldiiaaGreatDoorProxyK
import Derived.Test.YtmnmdlmmeldiiaaGreatDoorProxyF
import Derived.Test.YtmnmdlmmeldiiaaGreatDoorProxyP
import Derived.Test.YtmnmdlmmeldiiaaGreatDoorLaidG
import Derived.Test.YtmnmdlmmeldiiaaGreatDoorCards
import Derived.Test.YtmnmdlmmeldiiaaGreatDoorTieB
import Derived.LaidMore
import Derived.Lay
import Derived.SevenTiedAt
import Derived.Stop.Joined
import Derived.WalkKit
import Derived.ProofKit
import Derived.OpenShut
import Derived.ShutString
namespace Go.Proofs.YtmnmdlmmeldiiaaGreatDoor.proxyNil
open Go.ChangeShapes Go.WideShapes Go.ChangeAt Go.RowKit PH
open Go.ChangeMaps (open_string shut_string)
set_option linter.unusedVariables false

/-- ████ THE STATEMENT: the tied card ████ -/
theorem proved : Rows.ProxyNilCardSaid :=
  Claim7.holds_tied_plain_at .later [] [.pinned, .data, .data] true Rows.proxyNilCard.stood.harness true over (fun _ h => by cases h) wfT (fun _ h => by cases h) proxyNil_row_tie rfl ⟨rfl, rfl⟩ (by as_aux_lemma => kernel_rfl) rfl
    (fun f fn hf hfn => by
      obtain rfl : f = 3 := Option.some.inj ((show Tryz.prog.funcNamed "posthouse/posthouselaw32.ProxyNil" = some 3 by kernel_rfl).symm.trans hf) |>.symm
      obtain rfl : fn = Tryz.f3 := (Option.some.inj (Tryz.func3.symm.trans hfn)).symm
      exact ⟨looksF, fun j t ht => by
        rw [Tryz.params3] at ht
        have hm : t ∈ [23, 3, 24] := by simpa using Array.mem_of_getElem? ht
        have hall : ([23, 3, 24].all fun u => !Tryz.prog.wantsStandIn u) = true := by kernel_rfl
        exact (show Tryz.prog.wantsStandIn t = false by simpa using List.all_eq_true.1 hall t hm)⟩)
    goesF
#print axioms proved
end Go.Proofs.YtmnmdlmmeldiiaaGreatDoor.proxyNil
