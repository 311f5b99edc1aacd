/-
  Layer 28: 'do' of no shelf, of every kind.
-/
import Derived.Test.YtjmfclhilmmamaaGreatDoorShelfDb
import Derived.Test.YtjmfclhilmmamaaGreatDoorShelfDc
import Derived.Test.YtjmfclhilmmamaaGreatDoorShelfDd
import Derived.Test.YtjmfclhilmmamaaGreatDoorShelfDe
namespace Go.Proofs.YtjmfclhilmmamaaGreatDoor
open Go.RowKit PH

def silentK (kd : Int) : Bool := kd == 2 || kd == 3 || kd == 4 || kd == 5 || kd == 7 || kd == 8 || kd == 11 || kd == 14 || kd == 15
theorem do_nil {E W : World} {L : List HP} (x : Sat E W L) (kd : Int) (up key name text : ByteArray) (n m : Int) (l : Value) (hl : WccSrc W l) : Calls Tryz.prog 9 #[.pointer none, .agg #[.int .i64 kd, .string up, .string key, .string name, .string text, .int .i64 n, .int .i64 m, l]] W fun e w' => e = .returned (.agg (ansR (if silentK kd then 0 else 1))) ∧ Sat E w' L := by
  by_cases h1 : kd = 1
  · subst h1; exact do1 x up key name text n m l
  by_cases h2 : kd = 2
  · subst h2; exact do2 x up key name text n m l
  by_cases h3 : kd = 3
  · subst h3; exact do3 x up key name text n m l
  by_cases h4 : kd = 4
  · subst h4; exact do4 x up key name text n m l
  by_cases h5 : kd = 5
  · subst h5; exact do5 x up key name text n m l
  by_cases h6 : kd = 6
  · subst h6; exact do6 x up key name text n m l hl
  by_cases h7 : kd = 7
  · subst h7; exact do7 x up key name text n m l
  by_cases h8 : kd = 8
  · subst h8; exact do8 x up key name text n m l
  by_cases h9 : kd = 9
  · subst h9; exact do9 x up key name text n m l
  by_cases h10 : kd = 10
  · subst h10; exact do10 x up key name text n m l
  by_cases h11 : kd = 11
  · subst h11; exact do11 x up key name text n m l
  by_cases h12 : kd = 12
  · subst h12; exact do12 x up key name text n m l
  by_cases h13 : kd = 13
  · subst h13; exact do13 x up key name text n m l
  by_cases h14 : kd = 14
  · subst h14; exact do14 x up key name text n m l
  by_cases h15 : kd = 15
  · subst h15; exact do15 x up key name text n m l
  have hs : silentK kd = false := by simp [silentK]; omega
  rw [hs]
  exact do0 x up key name text n m l kd h1 h2 h3 h4 h5 h6 h7 h8 h9 h10 h11 h12 h13 h14 h15
end Go.Proofs.YtjmfclhilmmamaaGreatDoor
