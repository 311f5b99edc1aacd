/-
  Layer 32: the law ProxyNil; its fixed calls are reckoned.
-/
import Derived.Test.YtmnmdlmmeldiiaaGreatDoorProxyL
import Derived.Test.YtmnmdlmmeldiiaaGreatDoorRecK
namespace Go.Proofs.YtmnmdlmmeldiiaaGreatDoor
open Go.RowKit PH

theorem known_ok : KnownOk := fun W h => by
  obtain ⟨e0, h⟩ := h
  exact (PH.R.known_reck W e0 h).mono fun e w' h => by
    cases e <;> first | exact ⟨by rw [h.1], h.2⟩ | cases h
theorem proxyNil_ok (a b now : Int) (s : ByteArray) (k : Option Addr) (len cap : Nat) (W : World) (hn : NoneIs W) (hs : s.size ≤ 9223372036854775807) : Calls Tryz.prog 3 #[.agg #[.int .i64 a, .int .i64 b, .string s], .int .i64 now, .slice k len cap] W (TrueBelow W) :=
  proxyNil_of known_ok a b now s k len cap W hn hs
end Go.Proofs.YtmnmdlmmeldiiaaGreatDoor
