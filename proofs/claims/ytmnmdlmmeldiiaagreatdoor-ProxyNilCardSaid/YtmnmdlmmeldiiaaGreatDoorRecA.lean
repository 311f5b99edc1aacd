/-
  The reckoner, first part: values, trees, rows, heaps, and what operations do: of a machine that reckons a closed call of a program in the kernel. No program in sight.
  All is written for the kernel: small bodies, what comes next as an argument ('k'), and a truth at the end: false wherever the machine stops.
-/
import GoSem.Step
set_option linter.unusedVariables false
set_option linter.unusedSimpArgs false
namespace PH.R
open Go
noncomputable section

/-! Numbers as paths -/
/-- A number: 0; or 1 to 4 more than four times another. -/
inductive Pa where
  | e
  | a (p : Pa)
  | b (p : Pa)
  | c (p : Pa)
  | d (p : Pa)
deriving Inhabited

def Pa.num : Pa → Nat
  | .e => 0
  | .a p => 4 * p.num + 1
  | .b p => 4 * p.num + 2
  | .c p => 4 * p.num + 3
  | .d p => 4 * p.num + 4
def paD (r : Nat) (p : Pa) : Pa := Nat.casesOn (motive := fun _ => Pa) r (.a p) fun r => Nat.casesOn (motive := fun _ => Pa) r (.b p) fun r => Nat.casesOn (motive := fun _ => Pa) r (.c p) fun _ => .d p
def paS (ih : Nat → Pa) (m : Nat) : Pa := paD (Nat.mod m 4) (ih (Nat.div m 4))
def paF (f : Nat) : Nat → Pa := Nat.rec (motive := fun _ => Nat → Pa) (fun _ => .e) (fun _ ih n => Nat.casesOn (motive := fun _ => Pa) n .e (paS ih)) f
/-- Numbers below this have paths. -/
def big : Nat := 1099511627776
def paOf (n : Nat) : Pa := paF 30 n
def Pa.beq : Pa → Pa → Bool
  | .e, .e => true
  | .a p, .a q => p.beq q
  | .b p, .b q => p.beq q
  | .c p, .c q => p.beq q
  | .d p, .d q => p.beq q
  | _, _ => false

/-! Small eliminators -/
def bc {α : Type} (b : Bool) (x y : α) : α := Bool.casesOn (motive := fun _ => α) b y x
/-- If so, then on. -/
def ok (b : Bool) (k : Bool) : Bool := Bool.casesOn (motive := fun _ => Bool) b false k
def ob {α : Type} (x : Option α) (k : α → Bool) : Bool := Option.casesOn (motive := fun _ => Bool) x false k
def obo {α β : Type} (x : Option α) (f : α → Option β) : Option β := Option.casesOn (motive := fun _ => Option β) x none f
def forceN {β : Type} (n : Nat) (f : Nat → β) : β := Nat.casesOn (motive := fun _ => β) n (f 0) fun m => f (Nat.succ m)

/-! Trees -/
inductive T (α : Type) where
  | lf
  | nd (v : α) (a b c d : T α)
section trees
variable {α : Type}
def T.sub (i : Nat) (k : T α → α) (z : α) (t : T α) : α := T.casesOn (motive := fun _ => α) t z fun v a b c d => Nat.casesOn (motive := fun _ => α) i v fun i => Nat.casesOn (motive := fun _ => α) i (k a) fun i => Nat.casesOn (motive := fun _ => α) i (k b) fun i => Nat.casesOn (motive := fun _ => α) i (k c) fun _ => k d
def gE (z : α) (t : T α) : α := T.rec (motive := fun _ => α) z (fun v _ _ _ _ _ _ _ _ => v) t
def gA (z : α) (_ : Pa) (ih : T α → α) (t : T α) : α := T.rec (motive := fun _ => α) z (fun _ a _ _ _ _ _ _ _ => ih a) t
def gB (z : α) (_ : Pa) (ih : T α → α) (t : T α) : α := T.rec (motive := fun _ => α) z (fun _ _ b _ _ _ _ _ _ => ih b) t
def gC (z : α) (_ : Pa) (ih : T α → α) (t : T α) : α := T.rec (motive := fun _ => α) z (fun _ _ _ c _ _ _ _ _ => ih c) t
def gD (z : α) (_ : Pa) (ih : T α → α) (t : T α) : α := T.rec (motive := fun _ => α) z (fun _ _ _ _ d _ _ _ _ => ih d) t
def T.get (z : α) (p : Pa) : T α → α := Pa.rec (motive := fun _ => T α → α) (gE z) (gA z) (gB z) (gC z) (gD z) p
def sE (x : α) (t : T α) : T α := T.rec (motive := fun _ => T α) (.nd x .lf .lf .lf .lf) (fun _ a b c d _ _ _ _ => .nd x a b c d) t
def sA (z : α) (_ : Pa) (ih : T α → T α) (t : T α) : T α := T.rec (motive := fun _ => T α) (.nd z (ih .lf) .lf .lf .lf) (fun v a b c d _ _ _ _ => .nd v (ih a) b c d) t
def sB (z : α) (_ : Pa) (ih : T α → T α) (t : T α) : T α := T.rec (motive := fun _ => T α) (.nd z .lf (ih .lf) .lf .lf) (fun v a b c d _ _ _ _ => .nd v a (ih b) c d) t
def sC' (z : α) (_ : Pa) (ih : T α → T α) (t : T α) : T α := T.rec (motive := fun _ => T α) (.nd z .lf .lf (ih .lf) .lf) (fun v a b c d _ _ _ _ => .nd v a b (ih c) d) t
def sDd (z : α) (_ : Pa) (ih : T α → T α) (t : T α) : T α := T.rec (motive := fun _ => T α) (.nd z .lf .lf .lf (ih .lf)) (fun v a b c d _ _ _ _ => .nd v a b c (ih d)) t
def T.set (z x : α) (p : Pa) : T α → T α := Pa.rec (motive := fun _ => T α → T α) (sE x) (sA z) (sB z) (sC' z) (sDd z) p
end trees

/-! Values -/
/-- A slice's capacity: known; or up to its row's unknown end, 'd' elements of it used up ('o' is where the address stays if nothing is left). -/
inductive Cap where
  | k (n : Nat)
  | op (d o : Nat)
deriving Inhabited

/-- How a method's receiver is made of what stands in the interface value. -/
inductive Rc where
  | id
  | deref (n : Option Nat)
deriving DecidableEq

inductive V where
  | i (k : IntKind) (n : Int)
  | p (b : Pa) (o : Nat)
  | b (x : Bool)
  | s (len n : Nat)
  | sl (b : Pa) (o len : Nat) (c : Cap)
  | ag (l : List V)
  | tu (l : List V)
  | pn
  | sn
  | ni
  | mn
  | fn
  | mp (r : Pa)
  | fu (f : Nat) (first cap : List V)
  | fm (name : String) (tbl : List (Nat × Nat × Rc)) (first : List V)
  | fy (l : Pa)
  | ic (t : Nat) (v : V)
deriving Inhabited

def undV : V := .tu []
def asP (v : V) (k : Pa → Nat → Bool) : Bool := V.rec (motive_1 := fun _ => Bool) (motive_2 := fun _ => Bool) (fun _ _ => false) k (fun _ => false) (fun _ _ => false) (fun _ _ _ _ => false) (fun _ _ => false) (fun _ _ => false) false false false false false (fun _ => false) (fun _ _ _ _ _ => false) (fun _ _ _ _ => false) (fun _ => false) (fun _ _ _ => false) false (fun _ _ _ _ => false) v
def asI (v : V) (k : IntKind → Int → Bool) : Bool := V.rec (motive_1 := fun _ => Bool) (motive_2 := fun _ => Bool) k (fun _ _ => false) (fun _ => false) (fun _ _ => false) (fun _ _ _ _ => false) (fun _ _ => false) (fun _ _ => false) false false false false false (fun _ => false) (fun _ _ _ _ _ => false) (fun _ _ _ _ => false) (fun _ => false) (fun _ _ _ => false) false (fun _ _ _ _ => false) v
def natK (k : Nat → Bool) (_ : IntKind) (n : Int) : Bool := Int.casesOn (motive := fun _ => Bool) n k fun _ => false
def asN (v : V) (k : Nat → Bool) : Bool := asI v (natK k)
def asB (v : V) (k : Bool → Bool) : Bool := V.rec (motive_1 := fun _ => Bool) (motive_2 := fun _ => Bool) (fun _ _ => false) (fun _ _ => false) k (fun _ _ => false) (fun _ _ _ _ => false) (fun _ _ => false) (fun _ _ => false) false false false false false (fun _ => false) (fun _ _ _ _ _ => false) (fun _ _ _ _ => false) (fun _ => false) (fun _ _ _ => false) false (fun _ _ _ _ => false) v
def asS (v : V) (k : Nat → Nat → Bool) : Bool := V.rec (motive_1 := fun _ => Bool) (motive_2 := fun _ => Bool) (fun _ _ => false) (fun _ _ => false) (fun _ => false) k (fun _ _ _ _ => false) (fun _ _ => false) (fun _ _ => false) false false false false false (fun _ => false) (fun _ _ _ _ _ => false) (fun _ _ _ _ => false) (fun _ => false) (fun _ _ _ => false) false (fun _ _ _ _ => false) v
def asSl (v : V) (k : Pa → Nat → Nat → Cap → Bool) : Bool := V.rec (motive_1 := fun _ => Bool) (motive_2 := fun _ => Bool) (fun _ _ => false) (fun _ _ => false) (fun _ => false) (fun _ _ => false) k (fun _ _ => false) (fun _ _ => false) false false false false false (fun _ => false) (fun _ _ _ _ _ => false) (fun _ _ _ _ => false) (fun _ => false) (fun _ _ _ => false) false (fun _ _ _ _ => false) v
def asAg (v : V) (k : List V → Bool) : Bool := V.rec (motive_1 := fun _ => Bool) (motive_2 := fun _ => Bool) (fun _ _ => false) (fun _ _ => false) (fun _ => false) (fun _ _ => false) (fun _ _ _ _ => false) (fun x _ => k x) (fun _ _ => false) false false false false false (fun _ => false) (fun _ _ _ _ _ => false) (fun _ _ _ _ => false) (fun _ => false) (fun _ _ _ => false) false (fun _ _ _ _ => false) v
def asTu (v : V) (k : List V → Bool) : Bool := V.rec (motive_1 := fun _ => Bool) (motive_2 := fun _ => Bool) (fun _ _ => false) (fun _ _ => false) (fun _ => false) (fun _ _ => false) (fun _ _ _ _ => false) (fun _ _ => false) (fun x _ => k x) false false false false false (fun _ => false) (fun _ _ _ _ _ => false) (fun _ _ _ _ => false) (fun _ => false) (fun _ _ _ => false) false (fun _ _ _ _ => false) v
def asSlN (v : V) (k : Pa → Nat → Nat → Cap → Bool) (n : Bool) : Bool := V.rec (motive_1 := fun _ => Bool) (motive_2 := fun _ => Bool) (fun _ _ => false) (fun _ _ => false) (fun _ => false) (fun _ _ => false) k (fun _ _ => false) (fun _ _ => false) false n false false false (fun _ => false) (fun _ _ _ _ _ => false) (fun _ _ _ _ => false) (fun _ => false) (fun _ _ _ => false) false (fun _ _ _ _ => false) v
def asMp (v : V) (k : Pa → Bool) (n : Bool) : Bool := V.rec (motive_1 := fun _ => Bool) (motive_2 := fun _ => Bool) (fun _ _ => false) (fun _ _ => false) (fun _ => false) (fun _ _ => false) (fun _ _ _ _ => false) (fun _ _ => false) (fun _ _ => false) false false false n false k (fun _ _ _ _ _ => false) (fun _ _ _ _ => false) (fun _ => false) (fun _ _ _ => false) false (fun _ _ _ _ => false) v
def asIc (v : V) (k : Nat → V → Bool) (n : Bool) : Bool := V.rec (motive_1 := fun _ => Bool) (motive_2 := fun _ => Bool) (fun _ _ => false) (fun _ _ => false) (fun _ => false) (fun _ _ => false) (fun _ _ _ _ => false) (fun _ _ => false) (fun _ _ => false) false false n false false (fun _ => false) (fun _ _ _ _ _ => false) (fun _ _ _ _ => false) (fun _ => false) (fun x y _ => k x y) false (fun _ _ _ _ => false) v
def asStr (v : V) (k : Pa → Nat → Nat → Cap → Bool) (n : Bool) (s : Nat → Nat → Bool) : Bool := V.rec (motive_1 := fun _ => Bool) (motive_2 := fun _ => Bool) (fun _ _ => false) (fun _ _ => false) (fun _ => false) s k (fun _ _ => false) (fun _ _ => false) false n false false false (fun _ => false) (fun _ _ _ _ _ => false) (fun _ _ _ _ => false) (fun _ => false) (fun _ _ _ => false) false (fun _ _ _ _ => false) v
def asPn (v : V) (k : Pa → Nat → Bool) (n : Bool) : Bool := V.rec (motive_1 := fun _ => Bool) (motive_2 := fun _ => Bool) (fun _ _ => false) k (fun _ => false) (fun _ _ => false) (fun _ _ _ _ => false) (fun _ _ => false) (fun _ _ => false) n false false false false (fun _ => false) (fun _ _ _ _ _ => false) (fun _ _ _ _ => false) (fun _ => false) (fun _ _ _ => false) false (fun _ _ _ _ => false) v
def asFu (v : V) (k : Nat → List V → List V → Bool) (y : Pa → Bool) (m : String → List (Nat × Nat × Rc) → List V → Bool) : Bool := V.rec (motive_1 := fun _ => Bool) (motive_2 := fun _ => Bool) (fun _ _ => false) (fun _ _ => false) (fun _ => false) (fun _ _ => false) (fun _ _ _ _ => false) (fun _ _ => false) (fun _ _ => false) false false false false false (fun _ => false) (fun x y z _ _ => k x y z) (fun x y z _ => m x y z) y (fun _ _ _ => false) false (fun _ _ _ _ => false) v

/-! Numbers -/
def maxN (k : IntKind) : Nat := IntKind.casesOn (motive := fun _ => Nat) k 127 32767 2147483647 9223372036854775807 255 65535 4294967295 18446744073709551615
def ikN (k : IntKind) : Nat := IntKind.casesOn (motive := fun _ => Nat) k 0 1 2 3 4 5 6 7
def ikEq (a b : IntKind) : Bool := Nat.beq (ikN a) (ikN b)
def ii (x y : Int) (f : Nat → Nat → Bool) (g : Bool) : Bool := Int.casesOn (motive := fun _ => Bool) x (fun a => Int.casesOn (motive := fun _ => Bool) y (f a) fun _ => g) fun _ => g
/-- A number as it is. -/
def nI (k : IntKind) (r : V → Bool) (a : Nat) : Bool := r (.i k (.ofNat a))
def mI (k : IntKind) (r : V → Bool) (a : Nat) : Bool := r (.i k (.negSucc a))
def fI (k : IntKind) (n : Int) (r : V → Bool) : Bool := Int.casesOn (motive := fun _ => Bool) n (fun a => forceN a (nI k r)) fun a => forceN a (mI k r)
/-- A number, wrapped round. -/
def wI (k : IntKind) (n : Int) (r : V → Bool) : Bool := fI k (k.wrap n) r
def wN (k : IntKind) (a : Nat) (r : V → Bool) : Bool := bc (Nat.ble a (maxN k)) (forceN a (nI k r)) (wI k (.ofNat a) r)
def mkN (a : Nat) (r : V → Bool) : Bool := forceN a (nI .i64 r)
def iB (x : Bool) (r : V → Bool) : Bool := Bool.casesOn (motive := fun _ => Bool) x (r (.b false)) (r (.b true))
abbrev Io := IntKind → Int → Int → (V → Bool) → Bool
def iAdd : Io := fun k x y r => ii x y (fun a b => wN k (Nat.add a b) r) (wI k (x + y) r)
def iSub : Io := fun k x y r => ii x y (fun a b => bc (Nat.ble b a) (wN k (Nat.sub a b) r) (wI k (x - y) r)) (wI k (x - y) r)
def iMul : Io := fun k x y r => ii x y (fun a b => wN k (Nat.mul a b) r) (wI k (x * y) r)
def iQuo : Io := fun k x y r => ii x y (fun a b => bc (Nat.beq b 0) false (wN k (Nat.div a b) r)) (bc (decide (y = 0)) false (wI k (x.tdiv y) r))
def iRem : Io := fun k x y r => ii x y (fun a b => bc (Nat.beq b 0) false (fI k (.ofNat (Nat.mod a b)) r)) (bc (decide (y = 0)) false (fI k (x.tmod y) r))
def iBits (f : Nat → Nat → Nat) (g : (w : Nat) → BitVec w → BitVec w → BitVec w) : Io := fun k x y r =>
  ii x y (fun a b => bc (Nat.ble a (maxN k)) (bc (Nat.ble b (maxN k)) (fI k (.ofNat (f a b)) r) (wI k (g k.bits (BitVec.ofInt k.bits x) (BitVec.ofInt k.bits y)).toNat r)) (wI k (g k.bits (BitVec.ofInt k.bits x) (BitVec.ofInt k.bits y)).toNat r)) (wI k (g k.bits (BitVec.ofInt k.bits x) (BitVec.ofInt k.bits y)).toNat r)
def iAnd : Io := iBits Nat.land fun _ a b => a &&& b
def iOr : Io := iBits Nat.lor fun _ a b => a ||| b
def iXor : Io := iBits Nat.xor fun _ a b => a ^^^ b
def iAndNot : Io := fun k x y r => wI k (BitVec.ofInt k.bits x &&& ~~~(BitVec.ofInt k.bits y)).toNat r
def eqI (x y : Int) : Bool := Int.casesOn (motive := fun _ => Bool) x (fun a => Int.casesOn (motive := fun _ => Bool) y (Nat.beq a) fun _ => false) fun a => Int.casesOn (motive := fun _ => Bool) y (fun _ => false) (Nat.beq a)
def leI (x y : Int) : Bool := Int.casesOn (motive := fun _ => Bool) x (fun a => Int.casesOn (motive := fun _ => Bool) y (Nat.ble a) fun _ => false) fun a => Int.casesOn (motive := fun _ => Bool) y (fun _ => true) fun b => Nat.ble b a
def iEql : Io := fun _ x y r => iB (eqI x y) r
def iNeq : Io := fun _ x y r => iB (bc (eqI x y) false true) r
def iLss : Io := fun _ x y r => iB (bc (leI y x) false true) r
def iLeq : Io := fun _ x y r => iB (leI x y) r
def iGtr : Io := fun _ x y r => iB (bc (leI x y) false true) r
def iGeq : Io := fun _ x y r => iB (leI y x) r
def iShl : Io := fun k x y r => ii x y (fun a n => wN k (Nat.shiftLeft a (bc (Nat.ble n k.bits) n k.bits)) r) (bc (leI 0 y) (wI k (x * 2 ^ (min y.toNat k.bits)) r) false)
def iShr : Io := fun k x y r => ii x y (fun a n => fI k (.ofNat (Nat.shiftRight a (bc (Nat.ble n k.bits) n k.bits))) r) (bc (leI 0 y) (fI k (x.fdiv (2 ^ (min y.toNat k.bits))) r) false)

/-! Texts: so many bytes, the first the lowest of a number -/
def byteAt (n i : Nat) : Nat := Nat.mod (Nat.shiftRight n (Nat.mul 8 i)) 256
def bytesOf (len n : Nat) : ByteArray := ⟨((List.range len).map fun i => UInt8.ofNat (byteAt n i)).toArray⟩
def low (len n : Nat) : Nat := Nat.mod n (Nat.pow 256 len)
def strEq (l n l' n' : Nat) : Bool := bc (Nat.beq l l') (Nat.beq (low l n) (low l' n')) false
def mkS (len n : Nat) (r : V → Bool) : Bool := forceN len fun len => forceN n fun n => r (.s len n)
def catN (l n n' : Nat) : Nat := Nat.add (low l n) (Nat.shiftLeft n' (Nat.mul 8 l))
def cutN (n lo len : Nat) : Nat := low len (Nat.shiftRight n (Nat.mul 8 lo))
/-- Is a text below another? 'k' bytes are looked at from 'i' on. -/
def strLess (l n l' n' : Nat) : Nat → Nat → Bool
  | 0, i => Nat.ble (i + 1) l'
  | k + 1, i => bc (Nat.ble l' i) false (bc (Nat.ble l i) true
    (bc (Nat.blt (byteAt n i) (byteAt n' i)) true (bc (Nat.beq (byteAt n i) (byteAt n' i)) (strLess l n l' n' k (i + 1)) false)))
def byteVs (n : Nat) : Nat → Nat → List V
  | 0, _ => []
  | k + 1, i => forceN (byteAt n i) fun x => .i .u8 (.ofNat x) :: byteVs n k (i + 1)
def ascii (n : Nat) : Nat → Nat → Bool
  | 0, _ => true
  | k + 1, i => Nat.blt (byteAt n i) 128 && ascii n k (i + 1)
def runeVs (n : Nat) : Nat → Nat → List V
  | 0, _ => []
  | k + 1, i => forceN (byteAt n i) fun x => .i .i32 (.ofNat x) :: runeVs n k (i + 1)
def ofByteVs : List V → Option (Nat × Nat)
  | [] => some (0, 0)
  | .i .u8 (.ofNat x) :: l => obo (ofByteVs l) fun r => bc (Nat.blt x 256) (forceN (Nat.add x (Nat.mul 256 r.2)) fun m => some (r.1 + 1, m)) none
  | _ => none

/-! Rows of cells -/
inductive Row where
  | li (l : List V)
  | bs (len n : Nat)

def nth {α : Type} (l : List α) : Nat → (α → Bool) → Bool := List.rec (motive := fun _ => Nat → (α → Bool) → Bool) (fun _ _ => false) (fun a _ ih i k => Nat.casesOn (motive := fun _ => Bool) i (k a) fun j => ih j k) l
def dropL {α : Type} : Nat → List α → List α
  | 0, l => l
  | _ + 1, [] => []
  | n + 1, _ :: l => dropL n l
/-- So many of a list's head; none: there are fewer. -/
def takeL {α : Type} : Nat → List α → Option (List α)
  | 0, _ => some []
  | _ + 1, [] => none
  | n + 1, x :: l => obo (takeL n l) fun r => some (x :: r)
/-- A list laid over another from a place on; none: it reaches beyond it. -/
def overL {α : Type} : List α → List α → Option (List α)
  | [], r => some r
  | _ :: _, [] => none
  | x :: l, _ :: r => obo (overL l r) fun q => some (x :: q)
def layL {α : Type} (l : List α) : Nat → List α → Option (List α)
  | 0, r => overL l r
  | _ + 1, [] => none
  | n + 1, x :: r => obo (layL l n r) fun q => some (x :: q)
def lenL {α : Type} : List α → Nat → Nat
  | [], n => n
  | _ :: l, n => lenL l (Nat.succ n)

def Row.len : Row → Nat
  | .li l => lenL l 0
  | .bs n _ => n
def u8K (k : V → Bool) (x : Nat) : Bool := k (.i .u8 (.ofNat x))
def Row.get (r : Row) (i : Nat) (k : V → Bool) : Bool := Row.casesOn (motive := fun _ => Bool) r (fun l => nth l i k) fun len n => ok (Nat.blt i len) (forceN (byteAt n i) (u8K k))
def Row.loadL (l : List V) (o n : Nat) : Option (List V) := bc (Nat.beq o 0 && Nat.beq (lenL l 0) n) (some l) (takeL n (dropL o l))
def Row.load (r : Row) (o n : Nat) (k : List V → Bool) : Bool := Row.casesOn (motive := fun _ => Bool) r (fun l => ob (Row.loadL l o n) k) fun len m => ok (Nat.ble (Nat.add o n) len) (k (byteVs m n o))
def byK (k : Row → Bool) (len m : Nat) : Bool := k (.bs len m)
def Row.part (r : Row) (o n : Nat) (k : Row → Bool) : Bool := Row.casesOn (motive := fun _ => Bool) r (fun l => ob (Row.loadL l o n) fun q => k (.li q)) fun len m => ok (Nat.ble (Nat.add o n) len) (forceN n fun n => forceN (cutN m o n) (byK k n))
def Row.list (r : Row) : List V := match r with | .li l => l | .bs len n => byteVs n len 0
def catB (len n len' n' : Nat) (k : Row → Bool) : Bool := forceN (Nat.add len len') fun l => forceN (catN len n n') (byK k l)
def Row.cat (r x : Row) (k : Row → Bool) : Bool := match r with
  | .li l => k (.li (l ++ x.list))
  | .bs len n => match x with
    | .bs len' n' => catB len n len' n' k
    | .li l => ob (ofByteVs l) fun q => catB len n q.1 q.2 k
def overB (len n o len' n' : Nat) (k : Row → Bool) : Bool := ok (Nat.ble (Nat.add o len') len) (forceN (catN o n (catN len' n' (Nat.shiftRight n (Nat.mul 8 (Nat.add o len'))))) (byK k len))
def Row.over (r : Row) (o : Nat) (x : Row) (k : Row → Bool) : Bool := match r with
  | .li l => ob (layL x.list o l) fun q => k (.li q)
  | .bs len n => match x with
    | .bs len' n' => overB len n o len' n' k
    | .li l => ob (ofByteVs l) fun q => overB len n o q.1 q.2 k

def nthO {α : Type} : List α → Nat → Option α
  | [], _ => none
  | a :: _, 0 => some a
  | _ :: l, i + 1 => nthO l i

/-! How values are held equal -/
/-- How two values of a type are held equal: numbers, texts, truths; arrays of such; structs of these (place, cells, how). -/
inductive TE where
  | int
  | str
  | bool
  | arr (n : Nat) (e : TE)
  | st (fs : List (Nat × Nat × TE))
def TE.agg : TE → Bool
  | .arr .. | .st _ => true
  | _ => false
def partV (te : TE) (off sz : Nat) (l : List V) : Option V := bc te.agg (obo (takeL sz (dropL off l)) fun q => some (.ag q)) (nthO l off)
def primEq : TE → V → V → Option Bool
  | .bool, .b x, .b y => some (x == y)
  | .int, .i k x, .i k' y => bc (ikEq k k') (some (eqI x y)) none
  | .str, .s l n, .s l' n' => some (strEq l n l' n')
  | _, _, _ => none
def primEqs (te : TE) : List V → List V → Option Bool
  | [], [] => some true
  | x :: l, y :: m => obo (primEq te x y) fun r => bc r (primEqs te l m) (some false)
  | _, _ => none
mutual
def eqTE : TE → V → V → Option Bool
  | .int, x, y => primEq .int x y
  | .str, x, y => primEq .str x y
  | .bool, x, y => primEq .bool x y
  | .arr n e, .ag l, .ag m => bc (Nat.beq (lenL l 0) n && Nat.beq (lenL m 0) n) (primEqs e l m) none
  | .st fs, .ag l, .ag m => eqFs fs l m
  | _, _, _ => none
def eqFs : List (Nat × Nat × TE) → List V → List V → Option Bool
  | [], _, _ => some true
  | (off, sz, te) :: fs, l, m => obo (partV te off sz l) fun x => obo (partV te off sz m) fun y => obo (eqTE te x y) fun r => bc r (eqFs fs l m) (some false)
end
def eqNilP : V → V → Option Bool
  | .pn, .pn => some true
  | .pn, .p .. | .p .., .pn => some false
  | _, _ => none
def eqNilS : V → V → Option Bool
  | .sn, .sn => some true
  | .sn, .sl .. | .sl .., .sn => some false
  | _, _ => none
def eqNilM : V → V → Option Bool
  | .mn, .mn => some true
  | .mn, .mp _ | .mp _, .mn => some false
  | _, _ => none
def eqNilF : V → V → Option Bool
  | .fn, .fn => some true
  | .fn, .fu .. | .fu .., .fn | .fn, .fm .. | .fm .., .fn | .fn, .fy _ | .fy _, .fn => some false
  | _, _ => none
def eqNilI : V → V → Option Bool
  | .ni, .ni => some true
  | .ni, .ic .. | .ic .., .ni => some false
  | _, _ => none
def eqPtr : V → V → Option Bool
  | .pn, .pn => some true
  | .pn, .p .. | .p .., .pn => some false
  | .p b o, .p b' o' => bc (b.beq b') (some (Nat.beq o o')) none
  | _, _ => none
def teFind (t : Nat) : List (Nat × TE) → Option TE
  | [] => none
  | (u, e) :: l => bc (Nat.beq t u) (some e) (teFind t l)
def eqIfc (ts : List (Nat × TE)) : V → V → Option Bool
  | .ni, .ic .. | .ic .., .ni => some false
  | .ic t v, .ic t' v' => bc (Nat.beq t t') (obo (teFind t ts) fun e => primEq e v v') (some false)
  | _, _ => none

/-! Temporaries, operands -/
abbrev TV := T V
abbrev Xv := TV → V
def xt (p : Pa) : Xv := T.get undV p
def xc (v : V) : Xv := fun _ => v
structure Df where
  f : Nat
  args : List V
  mark : Option Pa := none
deriving Inhabited

/-! Heaps -/
inductive B where
  /-- cells · how many may be frozen · its element's cells, if open slices are of it (0: none) · its element's type -/
  | row (r : Row) (fz sz el : Nat)
  | map (es : List (V × V × Nat)) (clock : Nat)
  | itS (len n pos : Nat)
  | itM (m : Option Pa) (since : Nat) (seen : List Nat) (stepped : Nat)
  | dfd (l : Option (List Df))

structure H where
  h : T (Option B)
  next : Nat

def H.get (h : H) (b : Pa) : Option B := T.get none b h.h
def H.putT (b : Pa) (x : Option B) (h : T (Option B)) (n : Nat) : H := ⟨T.set none x b h, n⟩
def H.put (h : H) (b : Pa) (x : B) : H := H.casesOn (motive := fun _ => H) h (H.putT b (some x))
def H.del (h : H) (b : Pa) : H := H.casesOn (motive := fun _ => H) h (H.putT b none)
/-- A new object's number is the next. -/
def H.newT (x : B) (k : Pa → H → Bool) (h : T (Option B)) (n : Nat) : Bool := ok (Nat.blt n big) (k (paOf n) ⟨T.set none (some x) (paOf n) h, Nat.succ n⟩)
def H.new (h : H) (x : B) (k : Pa → H → Bool) : Bool := H.casesOn (motive := fun _ => Bool) h (H.newT x k)

def asRowB (x : B) (k : Row → Nat → Nat → Nat → Bool) : Bool := B.casesOn (motive := fun _ => Bool) x k (fun _ _ => false) (fun _ _ _ => false) (fun _ _ _ _ => false) (fun _ => false)
def asRow (x : Option B) (k : Row → Nat → Nat → Nat → Bool) : Bool := Option.casesOn (motive := fun _ => Bool) x false fun x => asRowB x k
def asMap (x : Option B) (k : List (V × V × Nat) → Nat → Bool) : Bool := Option.casesOn (motive := fun _ => Bool) x false fun x => B.casesOn (motive := fun _ => Bool) x (fun _ _ _ _ => false) k (fun _ _ _ => false) (fun _ _ _ _ => false) (fun _ => false)
def loadN (h : H) (b : Pa) (o n : Nat) (k : List V → Bool) : Bool := asRow (h.get b) fun r _ _ _ => r.load o n k
def load1 (h : H) (b : Pa) (o : Nat) (k : V → Bool) : Bool := asRow (h.get b) fun r _ _ _ => r.get o k
def scalar : V → Bool
  | .ag _ | .tu _ => false
  | _ => true
/-- Are all of a row's cells of one cell? -/
def Row.sc (r : Row) : Bool := match r with
  | .li l => l.all scalar
  | .bs .. => true
def storeR (h : H) (b : Pa) (o : Nat) (x : Row) (k : H → Bool) : Bool := asRow (h.get b) fun r fz sz el => ok (Nat.ble fz o && x.sc) (r.over o x fun r => k (h.put b (.row r fz sz el)))

def vcells : V → List V
  | .ag l => l
  | v => [v]
def repCells (z : List V) : Nat → List V
  | 0 => []
  | k + 1 => z ++ repCells z k

def evs (t : TV) (l : List Xv) : List V := List.rec (motive := fun _ => List V) [] (fun x _ ih => x t :: ih) l
def fillP (t : TV) : List (Nat × Nat × Xv) → List V → (List V → Bool) → Bool
  | [], cells, k => k cells
  | (off, sz, x) :: r, cells, k => ok (Nat.beq (lenL (vcells (x t)) 0) sz) (ob (layL (vcells (x t)) off cells) fun c => fillP t r c k)

/-! What operations do -/
abbrev Qo := TV → H → (V → Bool) → Bool
abbrev Ao := TV → (B → (Pa → V) → Bool) → Bool
inductive Out where
  | val (v : V) (h : H)
  | skip (h : H)
  | call (f : Nat) (args : List V) (h : H)
  | yield (l : Pa) (args : List V)
  | inv (tbl : List (Nat × Nat × Rc)) (recv : V) (args : List V)
  | dfr (d : Df)
  | recover
abbrev Lo := TV → H → (Out → Bool) → Bool

def findM (ty : Nat) : List (Nat × Nat × Rc) → Option (Nat × Rc)
  | [] => none
  | (t, f, r) :: l => bc (Nat.beq t ty) (some (f, r)) (findM ty l)
/-- Has a key the form of its type? (Where it is made of parts, all of them are looked at.) -/
def keyOk (te : TE) (k : V) (r : Bool) : Bool := bc te.agg (ob (eqTE te k k) fun b => ok b r) r
def findK (te : TE) (k : V) : List (V × V × Nat) → Nat → Option (Option (Nat × V))
  | [], _ => some none
  | (k', v, _) :: es, i => obo (eqTE te k k') fun r => bc r (some (some (i, v))) (findK te k es (i + 1))
def setNth {α : Type} (f : α → α) : List α → Nat → List α
  | [], _ => []
  | a :: l, 0 => f a :: l
  | a :: l, i + 1 => a :: setNth f l i
def delNth {α : Type} : List α → Nat → List α
  | [], _ => []
  | _ :: l, 0 => l
  | a :: l, i + 1 => a :: delNth l i

def qMv (x : Xv) : Qo := fun t _ k => k (x t)
def qPick (c a b : Xv) : Qo := fun t _ k => asB (c t) fun c => bc c (k (a t)) (k (b t))
def agK (k : V → Bool) (l : List V) : Bool := k (.ag l)
def qBuild (z : List V) (ps : List (Nat × Nat × Xv)) : Qo := fun t _ k => fillP t ps z (agK k)
def qLoad1 (a : Xv) : Qo := fun t h k => asP (a t) fun b o => load1 h b o k
def qLoadN (n : Nat) (a : Xv) : Qo := fun t h k => asP (a t) fun b o => loadN h b o n (agK k)
def nilckM (v : V) : Bool := match v with
  | .fm _ tbl [.ic ty _] => (match findM ty tbl with
    | some (_, .id) => true
    | _ => false)
  | .fu .. | .ic .. => true
  | _ => false
def nilckE (v : V) (k : Bool) : Bool := ok (nilckM v) k
def nilck (v : V) (k : Bool) : Bool := V.rec (motive_1 := fun _ => Bool) (motive_2 := fun _ => Bool) (fun _ _ => false) (fun _ _ => k) (fun _ => false) (fun _ _ => false) (fun _ _ _ _ => false) (fun _ _ => false) (fun _ _ => false) false false false false false (fun _ => false) (fun _ _ _ _ _ => k) (fun _ _ _ _ => nilckE v k) (fun _ => false) (fun _ _ _ => k) false (fun _ _ _ _ => false) v
def qNilck (x : Xv) : Qo := fun t _ k => nilck (x t) (k (x t))
def qI (f : Io) (x y : Xv) : Qo := fun t _ r => asI (x t) fun k a => asI (y t) fun k' b => ok (Nat.beq (ikN k) (ikN k')) (f k a b r)
def qSh (f : Io) (x y : Xv) : Qo := fun t _ r => asI (x t) fun k a => asI (y t) fun _ b => f k a b r
abbrev So := Nat → Nat → Nat → Nat → (V → Bool) → Bool
def sAdd : So := fun l n l' n' r => ok (Nat.blt (Nat.add l l') big) (mkS (Nat.add l l') (catN l n n') r)
def sEql : So := fun l n l' n' r => iB (strEq l n l' n') r
def sNeq : So := fun l n l' n' r => iB (bc (strEq l n l' n') false true) r
def sLss : So := fun l n l' n' r => iB (strLess l n l' n' l 0) r
def sGtr : So := fun l n l' n' r => iB (strLess l' n' l n l' 0) r
def sLeq : So := fun l n l' n' r => iB (bc (strLess l' n' l n l' 0) false true) r
def sGeq : So := fun l n l' n' r => iB (bc (strLess l n l' n' l 0) false true) r
def qStr (f : So) (x y : Xv) : Qo := fun t _ r => asS (x t) fun l n => asS (y t) fun l' n' => f l n l' n' r
def qEqv (neg : Bool) (m : V → V → Option Bool) (x y : Xv) : Qo := fun t _ k => ob (m (x t) (y t)) fun r => iB (bc neg (bc r false true) r) k
def qNot (x : Xv) : Qo := fun t _ k => asB (x t) fun b => bc b (k (.b false)) (k (.b true))
def qNeg (x : Xv) : Qo := fun t _ r => asI (x t) fun k n => iSub k 0 n r
def qInt (k : IntKind) (x : Xv) : Qo := fun t _ r => asI (x t) fun _ n => Int.casesOn (motive := fun _ => Bool) n (fun a => wN k a r) fun _ => wI k n r
def qBS (x : Xv) : Qo := fun t h k => asSlN (x t) (fun b o len _ => asRow (h.get b) fun r _ _ _ => r.part o len fun r => Row.casesOn (motive := fun _ => Bool) r (fun l => ob (ofByteVs l) fun q => mkS q.1 q.2 k) fun l n => k (.s l n)) (k (.s 0 0))
def qIS (x : Xv) : Qo := fun t _ k => asN (x t) fun n => ok (Nat.blt n 128) (k (.s 1 n))
def qPU (x : Xv) : Qo := fun t h k => asPn (x t) (fun b o => asRow (h.get b) fun r _ _ _ => ok (Nat.blt o r.len) (k (.p b o))) (k .pn)
def qUP (el n : Nat) (x : Xv) : Qo := fun t h k => asPn (x t) (fun b o => asRow (h.get b) fun r _ sz el' => ok (Nat.beq o 0 && Nat.beq sz 0 && Nat.beq el el' && Nat.ble n r.len && Nat.blt 0 n) (k (.p b 0))) (k .pn)
def qArr (n : Nat) (x : Xv) : Qo := fun t _ k => asSl (x t) fun b o len _ => ok (Nat.ble n len && Nat.blt 0 n) (k (.p b o))
def qMkI (ty : Nat) (x : Xv) : Qo := fun t _ k => k (.ic ty (x t))
def qMkF (f : Nat) (first cap : List Xv) : Qo := fun t _ k => k (.fu f (evs t first) (evs t cap))
def qMkFM (name : String) (tbl : List (Nat × Nat × Rc)) (first : List Xv) : Qo := fun t _ k => k (.fm name tbl (evs t first))
def optN (t : TV) (x : Option Xv) (d : Nat) (k : Nat → Bool) : Bool := Option.casesOn (motive := fun _ => Bool) x (k d) fun x => asN (x t) k
def qSlStr (x : Xv) (lo hi : Option Xv) : Qo := fun t _ k => asS (x t) fun len n => optN t hi len fun hi => optN t lo 0 fun lo => ok (Nat.ble hi len) (ok (Nat.ble lo hi) (mkS (Nat.sub hi lo) (cutN n lo (Nat.sub hi lo)) k))
/-- Is so much of an open slice known to be there? -/
def openTo (h : H) (sz : Nat) (b : Pa) (o len d hi : Nat) : Bool :=
  bc (Nat.ble hi len) true (asRow (h.get b) fun r _ sz' _ => Nat.beq sz sz' && Nat.beq o (Nat.mul d sz) && Nat.blt 0 sz && Nat.ble (Nat.add o (Nat.mul hi sz)) r.len)
def slK (sz : Nat) (b : Pa) (o lo hi m : Nat) (k : V → Bool) : Bool := forceN (bc (Nat.beq m lo) o (Nat.add o (Nat.mul lo sz))) fun o => forceN (Nat.sub hi lo) fun l => forceN (Nat.sub m lo) fun c => k (.sl b o l (.k c))
def slO (sz : Nat) (b : Pa) (o d o0 lo hi : Nat) (k : V → Bool) : Bool := forceN (Nat.add o (Nat.mul lo sz)) fun o' => forceN (Nat.sub hi lo) fun l => forceN (Nat.add d lo) fun d => forceN (bc (Nat.beq lo 0) o0 o) fun o0 => k (.sl b o' l (.op d o0))
def slIfK (ok' : Bool) (sz : Nat) (b : Pa) (o lo hi m : Nat) (k : V → Bool) : Bool := ok (ok' && Nat.ble hi m && Nat.ble lo hi) (slK sz b o lo hi m k)
def qSlSl (sz : Nat) (x : Xv) (lo hi mx : Option Xv) : Qo := fun t h k => asSlN (x t) (fun b o len c => Cap.casesOn (motive := fun _ => Bool) c
    (fun cap => optN t mx cap fun m => optN t hi len fun hi => optN t lo 0 fun lo => slIfK (Nat.ble m cap) sz b o lo hi m k)
    (fun d o0 => Option.casesOn (motive := fun _ => Bool) mx
      (optN t hi len fun hi => optN t lo 0 fun lo => ok (openTo h sz b o len d hi && Nat.ble lo hi) (slO sz b o d o0 lo hi k))
      fun mx => asN (mx t) fun m => optN t hi len fun hi => optN t lo 0 fun lo => slIfK (openTo h sz b o len d m && Nat.blt 0 m) sz b o lo hi m k))
  (optN t mx 0 fun m => optN t hi 0 fun hi => optN t lo 0 fun lo => ok (Nat.beq m 0 && Nat.beq hi 0 && Nat.beq lo 0) (k .sn))
def qSlArr (n sz : Nat) (x : Xv) (lo hi mx : Option Xv) : Qo := fun t _ k => asP (x t) fun b o => optN t mx n fun m => optN t hi n fun hi => optN t lo 0 fun lo => slIfK (Nat.ble m n) sz b o lo hi m k
def pK (b : Pa) (k : V → Bool) (o : Nat) : Bool := k (.p b o)
def qFaddr (off : Nat) (x : Xv) : Qo := fun t _ k => asP (x t) fun b o => forceN (Nat.add o off) (pK b k)
def qFld1 (off : Nat) (x : Xv) : Qo := fun t _ k => asAg (x t) fun l => nth l off k
def qFldN (off n : Nat) (x : Xv) : Qo := fun t _ k => asAg (x t) fun l => ob (takeL n (dropL off l)) (agK k)
def qIxArr (len sz : Nat) (x i : Xv) : Qo := fun t _ k => asP (x t) fun b o => asN (i t) fun i => ok (Nat.blt i len) (forceN (Nat.add o (Nat.mul i sz)) (pK b k))
def qIxSl (sz : Nat) (x i : Xv) : Qo := fun t _ k => asSl (x t) fun b o len _ => asN (i t) fun i => ok (Nat.blt i len) (forceN (Nat.add o (Nat.mul i sz)) (pK b k))
def qIxStr (x i : Xv) : Qo := fun t _ k => asS (x t) fun len n => asN (i t) fun i => ok (Nat.blt i len) (forceN (byteAt n i) (u8K k))
def lookOut (ok : Bool) (v : V) (is : Bool) : V := bc ok (.tu [v, .b is]) v
def qLookup (te : TE) (z : V) (ok : Bool) (m x : Xv) : Qo := fun t h k => asMp (m t) (fun r => asMap (h.get r) fun es _ => keyOk te (x t) (ob (findK te (x t) es 0) fun f => Option.casesOn (motive := fun _ => Bool) f (k (lookOut ok z false)) fun f => k (lookOut ok f.2 true))) (keyOk te (x t) (k (lookOut ok z false)))
def qTass (ty : Nat) (z : V) (c : Bool) (x : Xv) : Qo := fun t _ k => asIc (x t) (fun ty' v => bc (Nat.beq ty ty') (k (lookOut c v true)) (ok c (k (.tu [z, .b false])))) (ok c (k (.tu [z, .b false])))
def qExtr (i : Nat) (x : Xv) : Qo := fun t _ k => asTu (x t) fun l => nth l i k
def qEntry (it : Xv) : Qo := fun t h k => asP (it t) fun r o => match h.get r with
  | some (.itM (some m) _ [born] stepped) => asMap (h.get m) fun es clock => match es with
    | [(x, v, born')] => ok (Nat.beq o 0 && Nat.beq clock stepped && Nat.beq born born') (k (.tu [x, v]))
    | _ => false
  | _ => false
def qLenS (x : Xv) : Qo := fun t _ k => asS (x t) fun len _ => mkN len k
def qLen (x : Xv) : Qo := fun t _ k => asSlN (x t) (fun _ _ len _ => mkN len k) (k (.i .i64 (.ofNat 0)))
def qLenM (x : Xv) : Qo := fun t h k => asMp (x t) (fun r => asMap (h.get r) fun es _ => mkN (lenL es 0) k) (k (.i .i64 (.ofNat 0)))
def qCap (x : Xv) : Qo := fun t _ k => asSlN (x t) (fun _ _ _ c => Cap.casesOn (motive := fun _ => Bool) c (fun n => mkN n k) fun _ _ => false) (k (.i .i64 (.ofNat 0)))
def mmGo (mx : Bool) (k : IntKind) (r : V → Bool) : List V → Int → Bool
  | [], x => fI k x r
  | v :: l, x => asI v fun k' y => ok (ikEq k k') (mmGo mx k r l (bc mx (bc (leI y x) x y) (bc (leI x y) x y)))
def qMm (mx : Bool) (x : Xv) (xs : List Xv) : Qo := fun t _ r => asI (x t) fun k n => mmGo mx k r (evs t xs) n
def qUsd (x : Xv) : Qo := fun t _ k => asSlN (x t) (fun b o len c => ok (Nat.blt 0 (Cap.casesOn (motive := fun _ => Nat) c (fun n => n) fun _ _ => len)) (k (.p b o))) (k .pn)

def ptrTo (n : Pa) : V := .p n 0
def aNew (el : Nat) (z : List V) : Ao := fun _ k => k (.row (.li z) 0 0 el) ptrTo
def aBox (el n : Nat) (x : Xv) : Ao := fun t k => ok (Nat.beq (lenL (vcells (x t)) 0) n) (k (.row (.li (vcells (x t))) 0 0 el) ptrTo)
def aBslice (el sz len : Nat) (z : List V) (ps : List (Nat × Nat × Xv)) : Ao := fun t k => ok (Nat.beq (lenL z 0) sz) (fillP t ps (repCells z len) fun l => k (.row (.li l) 0 0 el) fun n => .sl n 0 len (.k len))
def aSB (el : Nat) (x : Xv) : Ao := fun t k => asS (x t) fun len n => k (.row (.li (byteVs n len 0)) 0 1 el) fun b => .sl b 0 len (.op 0 0)
def aSR (el : Nat) (x : Xv) : Ao := fun t k => asS (x t) fun len n => ok (ascii n len 0) (k (.row (.li (runeVs n len 0)) 0 1 el) fun b => .sl b 0 len (.op 0 0))
def aMap : Ao := fun _ k => k (.map [] 0) .mp
def aMkSl (el sz bytes : Nat) (z : List V) (l c : Xv) : Ao := fun t k => asN (l t) fun l => asN (c t) fun c => ok (Nat.ble l c && Nat.ble (Nat.mul c (Nat.succ (Nat.add bytes sz))) big && Nat.beq (lenL z 0) sz) (k (.row (.li (repCells z c)) 0 0 el) fun n => .sl n 0 l (.k c))
def aMkBy (el : Nat) (l c : Xv) : Ao := fun t k => asN (l t) fun l => asN (c t) fun c => ok (Nat.ble l c && Nat.ble c big) (k (.row (.bs c 0) 0 0 el) fun n => .sl n 0 l (.k c))

/-- A slice's, or a text's, elements: their cells, and how many they are. -/
def sliceR (h : H) (sz : Nat) (v : V) (k : Row → Nat → Bool) : Bool := asStr v (fun b o len _ => asRow (h.get b) fun r _ _ _ => r.part o (Nat.mul len sz) fun r => k r len) (k (.li []) 0) fun len n => ok (Nat.beq sz 1) (k (.bs len n) len)
def fits (n bytes : Nat) : Bool := Nat.blt (Nat.mul n (Nat.mul 4 (Nat.succ bytes))) big

def slKK (k : Out → Bool) (b : Pa) (o c : Nat) (h : H) (n : Nat) : Bool := k (.val (.sl b o n (.k c)) h)
def slKO (k : Out → Bool) (b : Pa) (o d : Nat) (h : H) (n : Nat) : Bool := k (.val (.sl b o n (.op d o)) h)
/-- Elements behind a slice of a known capacity. -/
def appK (h : H) (el sz bytes : Nat) (b : Pa) (o len cap : Nat) (x : Row) (n : Nat) (k : Out → Bool) : Bool :=
  bc (Nat.ble (Nat.add len n) cap)
    (storeR h b (Nat.add o (Nat.mul len sz)) x fun h => forceN (Nat.add len n) (slKK k b o cap h))
    (asRow (h.get b) fun r _ _ _ => ok (fits (Nat.add len n) bytes) (r.part o (Nat.mul len sz) fun q => q.cat x fun r => h.new (.row r 0 sz el) fun b' h => forceN (Nat.add len n) (slKO k b' 0 0 h)))
/-- Elements behind an open slice: within what is known; or from its end on: then the row is another's. -/
def appO (h : H) (el sz bytes : Nat) (b : Pa) (o len d : Nat) (x : Row) (n : Nat) (k : Out → Bool) : Bool :=
  asRow (h.get b) fun r fz sz' el' => ok (Nat.beq sz sz' && Nat.beq o (Nat.mul d sz) && Nat.blt 0 sz && Nat.ble fz r.len)
    (bc (Nat.ble (Nat.add o (Nat.mul (Nat.add len n) sz)) r.len)
      (storeR h b (Nat.add o (Nat.mul len sz)) x fun h => forceN (Nat.add len n) (slKO k b o d h))
      (ok (Nat.beq (Nat.add o (Nat.mul len sz)) r.len && Nat.beq el el' && fits (Nat.add len n) bytes && x.sc)
        (r.part o (Nat.mul len sz) fun q => q.cat x fun r => (h.del b).new (.row r fz sz el) fun b' h => forceN (Nat.add len n) (slKO k b' 0 0 h))))
def appV (h : H) (el sz bytes : Nat) (by0 : Bool) (s : V) (x : Row) (n : Nat) (k : Out → Bool) : Bool :=
  bc (Nat.beq n 0) (asSlN s (fun _ _ len c => ok (Cap.casesOn (motive := fun _ => Bool) c (fun cap => Nat.ble len cap) fun _ _ => true) (k (.val s h))) (k (.val s h)))
    (asSlN s (fun b o len c => Cap.casesOn (motive := fun _ => Bool) c (fun cap => appK h el sz bytes b o len cap x n k) fun d _ => appO h el sz bytes b o len d x n k)
      (ok (fits n bytes) (Row.cat (bc by0 (.bs 0 0) (.li [])) x fun r => h.new (.row r 0 sz el) fun b h => k (.val (.sl b 0 n (.op 0 0)) h))))

def bitEq : V → V → Bool
  | .b x, .b y => x == y
  | .i k x, .i k' y => ikEq k k' && eqI x y
  | .s l n, .s l' n' => strEq l n l' n'
  | _, _ => false
def bitEqs : List V → List V → Bool
  | [], [] => true
  | x :: l, y :: m => bitEq x y && bitEqs l m
  | _, _ => false
/-- Are two keys alike, bit by bit? -/
def keyBits : V → V → Bool
  | .ag l, .ag m => bitEqs l m
  | x, y => bitEq x y
def lAs (x : Xv) : Lo := fun t h k => k (.val (x t) h)
def lStore (n : Nat) (a x : Xv) : Lo := fun t h k => asP (a t) fun b o => ok (Nat.beq (lenL (vcells (x t)) 0) n) (storeR h b o (.li (vcells (x t))) fun h => k (.skip h))
def lMupd (te : TE) (m x y : Xv) : Lo := fun t h k => asMp (m t) (fun r => asMap (h.get r) fun es clock => keyOk te (x t) (ob (findK te (x t) es 0) fun f => match f with
    | some (i, _) => nth es i fun e => ok (keyBits (x t) e.1) (k (.skip (h.put r (.map (setNth (fun e => (x t, y t, e.2.2)) es i) clock))))
    | none => k (.skip (h.put r (.map (es ++ [(x t, y t, clock)]) (Nat.succ clock)))))) false
def lMent (te : TE) (z : V) (m x : Xv) : Lo := fun t h k => asMp (m t) (fun r => asMap (h.get r) fun es clock => keyOk te (x t) (ob (findK te (x t) es 0) fun f => match f with
    | some (i, v) => nth es i fun e => ok (keyBits (x t) e.1) (mkN e.2.2 fun s => k (.val (.tu [v, s]) (h.put r (.map (setNth (fun e => (x t, e.2)) es i) clock))))
    | none => mkN clock fun s => k (.val (.tu [z, s]) (h.put r (.map (es ++ [(x t, z, clock)]) (Nat.succ clock)))))) false
def lEstore (m s x : Xv) : Lo := fun t h k => asMp (m t) (fun r => asN (s t) fun born => asMap (h.get r) fun es clock => ob (es.findIdx? (fun e => Nat.beq e.2.2 born)) fun i => k (.skip (h.put r (.map (setNth (fun e => (e.1, x t, e.2.2)) es i) clock)))) false
def lRngS (x : Xv) : Lo := fun t h k => asS (x t) fun len n => h.new (.itS len n 0) fun b h => k (.val (.p b 0) h)
def lRngM (x : Xv) : Lo := fun t h k => asMp (x t) (fun r => asMap (h.get r) fun _ clock => h.new (.itM (some r) clock [] clock) fun b h => k (.val (.p b 0) h)) (h.new (.itM none 0 [] 0) fun b h => k (.val (.p b 0) h))
def lNext (str : Bool) (it : Xv) : Lo := fun t h k => asP (it t) fun r o => ok (Nat.beq o 0) (match h.get r with
  | some (.itS len n pos) => ok str <|
    bc (Nat.ble len pos) (k (.val (.tu [.b false]) h))
      (ok (Nat.blt (byteAt n pos) 128) (forceN (Nat.succ pos) fun p' => mkN pos fun p => forceN (byteAt n pos) fun c => k (.val (.tu [.b true, p, .i .i32 (.ofNat c)]) (h.put r (.itS len n p')))))
  | some (.itM none _ _ _) => bc str false (k (.val (.tu [.b false]) h))
  | some (.itM (some m) since seen stepped) => bc str false <| asMap (h.get m) fun es clock => match es with
    | [] => k (.val (.tu [.b false]) h)
    | [(x, v, born)] => ok (Nat.blt born since)
      (match seen with
      | [] => k (.val (.tu [.b true, x, v]) (h.put r (.itM (some m) since [born] clock)))
      | [y] => ok (Nat.beq y born && Nat.blt born stepped) (k (.val (.tu [.b false]) h))
      | _ => false)
    | _ => false
  | _ => false)
def lApp (el sz bytes : Nat) (by0 : Bool) (s x : Xv) : Lo := fun t h k => sliceR h sz (x t) fun r n => appV h el sz bytes by0 (s t) r n k
def lAppZ (el sz bytes : Nat) (by0 : Bool) (z : List V) (s x : Xv) : Lo := fun t h k => asN (x t) fun n => ok (fits n bytes && Nat.beq (lenL z 0) sz) (appV h el sz bytes by0 (s t) (bc by0 (.bs n 0) (.li (repCells z n))) n k)
def lCopy (sz : Nat) (d s : Xv) : Lo := fun t h k => sliceR h sz (s t) fun r m => asSlN (d t) (fun b o len _ => forceN (bc (Nat.ble m len) m len) fun n => r.part 0 (Nat.mul n sz) fun l => storeR h b o l fun h => mkN n fun v => k (.val v h)) (k (.val (.i .i64 (.ofNat 0)) h))
def lClearS (sz : Nat) (z : List V) (x : Xv) : Lo := fun t h k => asSlN (x t) (fun b o len _ => bc (Nat.beq len 0) (k (.val undV h)) (ok (Nat.beq (lenL z 0) sz) (storeR h b o (.li (repCells z len)) fun h => k (.val undV h)))) (k (.val undV h))
def lClearM (x : Xv) : Lo := fun t h k => asMp (x t) (fun r => asMap (h.get r) fun _ clock => k (.val undV (h.put r (.map [] clock)))) (k (.val undV h))
def lDel (te : TE) (m x : Xv) : Lo := fun t h k => asMp (m t) (fun r => asMap (h.get r) fun es clock => keyOk te (x t) (ob (findK te (x t) es 0) fun f => match f with
    | some (i, _) => k (.val undV (h.put r (.map (delNth es i) clock)))
    | none => k (.val undV h))) (keyOk te (x t) (k (.val undV h)))
def lUstr (el : Nat) (p n : Xv) : Lo := fun t h k => asN (n t) fun n => asPn (p t) (fun b o => bc (Nat.beq n 0) (k (.val (.s 0 0) h)) (asRow (h.get b) fun r fz sz el' => ok (Nat.beq el el' && Nat.blt 0 sz && Nat.blt n big) (r.part o n fun q => Row.casesOn (motive := fun _ => Bool) q (fun _ => false) fun l m => k (.val (.s l m) (h.put b (.row r (bc (Nat.ble (Nat.add o n) fz) fz (Nat.add o n)) sz el')))))) (ok (Nat.beq n 0) (k (.val (.s 0 0) h)))
def lRecover : Lo := fun _ _ k => k .recover
def lCall (f : Nat) (args : List Xv) : Lo := fun t h k => k (.call f (evs t args) h)
def lCallV (f : Xv) (args : List Xv) : Lo := fun t h k => asFu (f t) (fun f first cap => k (.call f (first ++ evs t args ++ cap) h)) (fun l => k (.yield l (evs t args))) fun _ tbl first => match first with
  | [r] => k (.inv tbl r (evs t args))
  | _ => false
def lInv (tbl : List (Nat × Nat × Rc)) (recv : Xv) (args : List Xv) : Lo := fun t _ k => k (.inv tbl (recv t) (evs t args))
def lDfr (f : Xv) (args : List Xv) : Lo := fun t _ k => asFu (f t) (fun f first cap => k (.dfr ⟨f, first ++ evs t args ++ cap, none⟩)) (fun _ => false) fun _ _ _ => false
def lBad : Lo := fun _ _ _ => false
end
end PH.R
/-
  The reckoner, second part: the machine.
-/
namespace PH.R
open Go
noncomputable section

inductive S where
  | q (f : Qo)
  | a (f : Ao)
  | l (f : Lo)
structure O where
  d : Option Pa
  g : Option (Pa × Bool)
  s : S
/-- A step of a plan: a quiet operation; or a loud one, and those ahead of it that are to be looked at anew behind it. -/
inductive PS where
  | q (o : O)
  | l (o : O) (re : List O)
inductive C where
  | skip
  | reg (ops : List O)
  | regD (ps : List PS)
  | seq (a b : C)
  | cond (c : Xv) (a b : C)
  | block (id : Nat) (c : C)
  | loop (c : C)
  | rf (f : Xv) (ps : List Pa) (assign body : C)
  | exit (id : Nat)
  | scope (c : C)
  | label (l : Nat)
  | goto (l : Nat)
  | ret
  | bad

inductive Ls where | ready | busy | done | exhausted
structure Lp where
  st : Ls
  pending : Option C
  fn : Nat
  n : Nat
  tmps : TV
  params : List Pa
  assign : C
  body : C
  defers : Pa

inductive RV where
  | t (i : Pa)
  | c (a : Pa) (n : Option Nat)
inductive Ext where
  | load (k : IntKind)
  | store
  | add (k : IntKind)
  | cas (k : IntKind)
  | nop
  | nopA
  | same
  | idxByte
  | noZero (el : Nat)
inductive Fn where
  | code (n : Nat) (res : List RV) (c : C)
  | ext (e : Ext)
abbrev Env := T (Option Fn)

inductive Kd where | normal | deferred
inductive I where
  | code (c : C)
  | blk (id : Nat)
  | loop (c : C)
  | scope (c : C)
  | seq (ops : List O)
  | rd (ps : List PS)
  | rf (l : Pa)
  | erf (l : Pa)
  | br
/-- What of a frame seldom turns. -/
structure Fx where
  fn : Nat
  n : Nat
  dfs : List Df
  kd : Kd
  rnd : Option Pa
/-- A frame that waits for a call: it runs, or is being left. -/
structure Fr where
  x : Fx
  t : TV
  todo : List I
  run : Bool
/-- What stands round the running frame: what of it seldom turns, its callers, the loops. -/
structure K where
  x : Fx
  cs : List Fr
  ls : T (Option Lp)
inductive Cf where
  | run (k : K) (t : TV) (todo : List I) (h : H)
  | ret (k : K) (t : TV) (h : H)

def exitTo (id : Nat) : List I → Option (List I)
  | .blk id' :: k => bc (Nat.beq id' id) (some k) (exitTo id k)
  | _ :: k => exitTo id k
  | [] => none
def findL : C → Nat → Option C
  | .seq a b, l => match findL a l with
    | some r => some (.seq r b)
    | none => findL b l
  | .label l', l => bc (Nat.beq l' l) (some .skip) none
  | _, _ => none
def gotoIn (l : Nat) : List I → Option (List I)
  | .scope body :: k => match findL body l with
    | some r => some (.code r :: .scope body :: k)
    | none => gotoIn l k
  | _ :: k => gotoIn l k
  | [] => none

def isB (v : V) (w : Bool) : Bool := asB v fun x => bc w x (bc x false true)
def wantedG (t : TV) (g : Pa × Bool) : Bool := isB (T.get undV g.1 t) g.2
def wanted (t : TV) (g : Option (Pa × Bool)) : Bool := Option.casesOn (motive := fun _ => Bool) g true (wantedG t)
def putP (v : V) (t : TV) (p : Pa) : TV := T.set undV v p t
def putD (d : Option Pa) (v : V) (t : TV) : TV := Option.casesOn (motive := fun _ => TV) d t (putP v t)

mutual
def vEq : V → V → Bool
  | .b x, .b y => x == y
  | .i k x, .i k' y => ikEq k k' && eqI x y
  | .s l n, .s l' n' => Nat.beq l l' && Nat.beq n n'
  | .pn, .pn | .sn, .sn | .mn, .mn | .fn, .fn | .ni, .ni => true
  | .p b o, .p b' o' => b.beq b' && Nat.beq o o'
  | .sl b o l (.k n), .sl b' o' l' (.k n') => b.beq b' && Nat.beq o o' && Nat.beq l l' && Nat.beq n n'
  | .sl b o l (.op n m), .sl b' o' l' (.op n' m') => b.beq b' && Nat.beq o o' && Nat.beq l l' && Nat.beq n n' && Nat.beq m m'
  | .mp r, .mp r' => r.beq r'
  | .fu f a c, .fu f' a' c' => Nat.beq f f' && vsEq a a' && vsEq c c'
  | .ic t v, .ic t' v' => Nat.beq t t' && vEq v v'
  | .ag l, .ag l' | .tu l, .tu l' => vsEq l l'
  | _, _ => false
def vsEq : List V → List V → Bool
  | [], [] => true
  | x :: l, y :: m => vEq x y && vsEq l m
  | _, _ => false
end
def rowEq : Row → Row → Bool
  | .li l, .li m => vsEq l m
  | .bs l n, .bs l' n' => Nat.beq l l' && Nat.beq n n'
  | _, _ => false
/-- Is what a new object was made of still what it is? -/
def objEq : B → Option B → Bool
  | .row r 0 sz el, some (.row r' 0 sz' el') => rowEq r r' && Nat.beq sz sz' && Nat.beq el el'
  | .map [] 0, some (.map [] 0) => true
  | _, _ => false
def idOf : V → Option Pa
  | .p b _ => some b
  | .sl b _ _ _ => some b
  | .mp b => some b
  | _ => none

def eqD (d : Option Pa) (t : TV) (v : V) : Bool := Option.casesOn (motive := fun _ => Bool) d true fun d => vEq (T.get undV d t) v
/-- Would an operation that was done ahead still do the same? -/
def same (t : TV) (h : H) (o : O) : Bool :=
  bc (wanted t o.g)
    (match o.s with
    | .q f => f t h (eqD o.d t)
    | .a f => f t fun x mk => Option.casesOn (motive := fun _ => Bool) o.d false fun d => ob (idOf (T.get undV d t)) fun b => vEq (T.get undV d t) (mk b) && objEq x (h.get b)
    | .l _ => false)
    (eqD o.d t undV)
def sames (t : TV) (h : H) : List O → Bool
  | [] => true
  | o :: l => same t h o && sames t h l

def doS (o : O) (t : TV) (h : H) (l : Lo → Bool) (k : TV → H → Bool) : Bool := S.casesOn (motive := fun _ => Bool) o.s (fun f => f t h fun v => k (putD o.d v t) h) (fun f => f t fun x mk => h.new x fun b h => k (putD o.d (mk b) t) h) l
/-- An operation: quiet, it is done; loud, 'l' is asked. -/
def doO (o : O) (t : TV) (h : H) (l : Lo → Bool) (k : TV → H → Bool) : Bool := bc (wanted t o.g) (doS o t h l k) (k (putD o.d undV t) h)

/-- The quiet operations at the head of a plan. -/
def batchS (k : List PS → TV → H → Bool) (p : PS) (ps : List PS) (ih : TV → H → Bool) (t : TV) (h : H) : Bool := PS.casesOn (motive := fun _ => Bool) p (fun o => doO o t h (fun _ => false) ih) fun o re => k (.l o re :: ps) t h
def batch (k : List PS → TV → H → Bool) (ps : List PS) : TV → H → Bool := List.rec (motive := fun _ => TV → H → Bool) (k []) (batchS k) ps

/-- Quiet operations, one behind the other; 'k': what comes behind them all; 'l': a loud one has come up. -/
def quietsS (l : O → List O → Lo → TV → H → Bool) (o : O) (r : List O) (ih : TV → H → Bool) (t : TV) (h : H) : Bool := doO o t h (fun f => l o r f t h) ih
def quiets (k : TV → H → Bool) (l : O → List O → Lo → TV → H → Bool) (ops : List O) : TV → H → Bool := List.rec (motive := fun _ => TV → H → Bool) k (quietsS l) ops

def rdK (k : K) (td : List I) (r : Cf → Bool) (ps : List PS) (t : TV) (h : H) : Bool := r (.run k t (.rd ps :: td) h)
/-- What a call gives is laid down, and the frame goes on. -/
def go (k : K) (t : TV) (todo : List I) (v : V) (h : H) (r : Cf → Bool) : Bool :=
  match todo with
  | .seq (o :: l) :: td => r (.run k (putD o.d v t) (.seq l :: td) h)
  | .rd (.l o re :: ps) :: td => ok (sames (putD o.d v t) h re) (batch (rdK k td r) ps (putD o.d v t) h)
  | .rf l :: td => r (.run k t (.erf l :: td) h)
  | .br :: td => r (.run k t td h)
  | _ => false
/-- A frame that waited goes on with what a call gave. -/
def back (f : Fr) (cs : List Fr) (ls : T (Option Lp)) (v : V) (h : H) (r : Cf → Bool) : Bool := Fr.casesOn (motive := fun _ => Bool) f fun x t todo b => ok b (go ⟨x, cs, ls⟩ t todo v h r)

def argsS (v : V) (_ : List V) (ih : Nat → TV → TV) (i : Nat) (t : TV) : TV := ih (Nat.succ i) (T.set undV v (paOf i) t)
def argsT (l : List V) : Nat → TV → TV := List.rec (motive := fun _ => Nat → TV → TV) (fun _ t => t) argsS l

def findB (n c : Nat) : Nat → Nat → Int
  | 0, _ => .negSucc 0
  | k + 1, i => bc (Nat.beq (byteAt n i) c) (.ofNat i) (findB n c k (Nat.succ i))
def extV (h : H) (args : List V) (e : Ext) (k : V → H → Bool) : Bool := match e with
  | .load ik => (match args with
    | [a] => asP a fun b o => load1 h b o fun v => asI v fun k' x => ok (ikEq ik k') (k (.i k' x) h)
    | _ => false)
  | .store => (match args with
    | [a, v] => asP a fun b o => load1 h b o fun _ => storeR h b o (.li [v]) (k undV)
    | _ => false)
  | .add ik => (match args with
    | [a, y] => asP a fun b o => asI y fun _ y => load1 h b o fun v => asI v fun k' x => ok (ikEq ik k') (iAdd ik x y fun w => storeR h b o (.li [w]) (k w))
    | _ => false)
  | .cas ik => (match args with
    | [a, y, v] => asP a fun b o => asI y fun _ y => asRow (h.get b) fun r fz _ _ => ok (Nat.ble fz o) (r.get o fun w => asI w fun k' x => ok (ikEq ik k') (bc (eqI x y) (storeR h b o (.li [v]) (k (.b true))) (k (.b false) h)))
    | _ => false)
  | .nop => k undV h
  | .nopA => (match args with
    | a :: _ => asP a fun _ _ => k undV h
    | [] => false)
  | .same => (match args with | [v] => k v h | _ => false)
  | .idxByte => (match args with
    | [s, c] => asS s fun len n => asI c fun ik c => ok (ikEq ik .u8) (natK (fun c => ok (Nat.blt c 256) (fI .i64 (findB n c len 0) fun v => k v h)) ik c)
    | _ => false)
  | .noZero el => (match args with
    | [n] => asI n fun ik n => ok (ikEq ik .i64) (natK (fun n => ok (fits n 1) (h.new (.row (.bs 0 0) 0 1 el) fun b h => k (.sl b 0 n (.op 0 0)) h)) ik n)
    | _ => false)

def callC (f n : Nat) (c : C) (args : List V) (k : K) (t : TV) (todo : List I) (h : H) (r : Cf → Bool) : Bool := K.casesOn (motive := fun _ => Bool) k fun x cs ls => ok (Nat.ble (lenL args 0) n) (ok (Nat.blt n big)
      (r (.run ⟨⟨f, n, [], .normal, none⟩, ⟨x, t, todo, true⟩ :: cs, ls⟩ (argsT args 0 .lf) [.code c] h)))
def callF (E : Env) (f : Nat) (args : List V) (k : K) (t : TV) (todo : List I) (h : H) (r : Cf → Bool) : Bool :=
  ok (Nat.blt f big) <| ob (T.get none (paOf f) E) fun fn => match fn with
  | .code n _ c => callC f n c args k t todo h r
  | .ext e => extV h args e fun v h => go k t todo v h r

/-- A function that is ranged over has a body. -/
def callR (E : Env) (f : Nat) (args : List V) (k : K) (t : TV) (todo : List I) (h : H) (r : Cf → Bool) : Bool :=
  ok (Nat.blt f big) <| ob (T.get none (paOf f) E) fun fn => match fn with
  | .code n _ c => callC f n c args k t todo h r
  | .ext _ => false

def recvV (h : H) (v : V) (rc : Rc) (k : V → Bool) : Bool := match rc with
  | .id => k v
  | .deref none => asP v fun b o => load1 h b o k
  | .deref (some n) => asP v fun b o => loadN h b o n (agK k)

def setPs : List Pa → List V → TV → (TV → Bool) → Bool
  | [], [], t, k => k t
  | p :: ps, v :: vs, t, k => setPs ps vs (T.set undV v p t) k
  | _, _, _, _ => false

def lget (ls : T (Option Lp)) (l : Pa) (k : Lp → Bool) : Bool := ob (T.get none l ls) k
def lput (ls : T (Option Lp)) (l : Pa) (x : Lp) : T (Option Lp) := T.set none (some x) l ls

def outYield (k : K) (t : TV) (todo : List I) (h : H) (l : Pa) (args : List V) (r : Cf → Bool) : Bool := match k with
  | ⟨x, cs, ls⟩ => lget ls l fun L => setPs L.params args L.tmps fun t' => r (.run ⟨⟨L.fn, L.n, [], .normal, some l⟩, ⟨x, t, todo, true⟩ :: cs, ls⟩ t' [.code L.assign, .br, .code L.body] h)
def outInv (E : Env) (k : K) (t : TV) (todo : List I) (h : H) (tbl : List (Nat × Nat × Rc)) (v : V) (args : List V) (r : Cf → Bool) : Bool :=
  asIc v (fun ty v => ob (findM ty tbl) fun m => recvV h v m.2 fun v => callF E m.1 (v :: args) k t todo h r) false
def outDfr (k : K) (t : TV) (todo : List I) (h : H) (d : Df) (r : Cf → Bool) : Bool := match k with
  | ⟨⟨fn, n, dfs, kd, rnd⟩, cs, ls⟩ => match rnd with
    | none => go ⟨⟨fn, n, d :: dfs, kd, none⟩, cs, ls⟩ t todo undV h r
    | some l => lget ls l fun L => match h.get L.defers with
      | some (.dfd (some ds)) => go ⟨⟨fn, n, dfs, kd, some l⟩, cs, ls⟩ t todo undV (h.put L.defers (.dfd (some (d :: ds)))) r
      | _ => false
def outRec (k : K) (t : TV) (todo : List I) (h : H) (r : Cf → Bool) : Bool := match k.x.rnd, k.x.kd, k.cs with
  | none, .deferred, c :: _ => bc c.run false (go k t todo .ni h r)
  | none, .normal, _ => go k t todo .ni h r
  | _, _, _ => false
def out (E : Env) (k : K) (t : TV) (todo : List I) (r : Cf → Bool) (h0 : H) (o : Out) : Bool := match o with
  | .val v h => go k t todo v h r
  | .skip h => go k t todo undV h r
  | .call f args h => callF E f args k t todo h r
  | .yield l args => outYield k t todo h0 l args r
  | .inv tbl v args => outInv E k t todo h0 tbl v args r
  | .dfr d => outDfr k t todo h0 d r
  | .recover => outRec k t todo h0 r

def leaveL (cs : List Fr) (kd : Kd) (ls : T (Option Lp)) (l : Pa) (h : H) (jump : Option C) (r : Cf → Bool) (L : Lp) : Bool := match L with
  | ⟨_, _, fn', n', tmps, params, assign, body, defers⟩ => match cs, kd, jump with
    | c :: cs, .normal, none => back c cs (lput ls l ⟨.ready, none, fn', n', tmps, params, assign, body, defers⟩) (.b true) h r
    | c :: cs, .normal, some j => back c cs (lput ls l ⟨.done, some j, fn', n', tmps, params, assign, body, defers⟩) (.b false) h r
    | _, _, _ => false
def mayRet (jump : Option C) : Bool := match jump with
  | none => true
  | some .ret => true
  | _ => false
/-- A frame that is left without a round of its own returns; a round tells its loop. -/
def leave (k : K) (t : TV) (h : H) (jump : Option C) (r : Cf → Bool) : Bool :=
  match k with
  | ⟨⟨fn, n, dfs, kd, rnd⟩, cs, ls⟩ => match rnd with
    | none => ok (mayRet jump) (r (.ret ⟨⟨fn, n, dfs, kd, none⟩, cs, ls⟩ t h))
    | some l => lget ls l (leaveL cs kd ls l h jump r)

def resV (t : TV) (h : H) : List RV → (List V → Bool) → Bool
  | [], k => k []
  | .t i :: l, k => resV t h l fun r => k (T.get undV i t :: r)
  | .c a n :: l, k => asP (T.get undV a t) fun b o => resV t h l fun r => Option.casesOn (motive := fun _ => Bool) n (load1 h b o fun v => k (v :: r)) fun n => loadN h b o n fun v => k (.ag v :: r)
def packV (l : List V) : V := match l with
  | [v] => v
  | l => .tu l

def uwD (E : Env) (d : Df) (ds : List Df) (fn n : Nat) (kd : Kd) (rnd : Option Pa) (cs : List Fr) (ls : T (Option Lp)) (t : TV) (h : H) (r : Cf → Bool) : Bool := match d with
  | ⟨f, args, mark⟩ => match mark with
    | some p => (match h.get p with
      | some (.dfd (some l)) => r (.ret ⟨⟨fn, n, l ++ ds, kd, rnd⟩, cs, ls⟩ t (h.put p (.dfd none)))
      | _ => false)
    | none => ok (Nat.blt f big) <| ob (T.get none (paOf f) E) fun x => match x with
      | .code n' _ c => ok (Nat.ble (lenL args 0) n' && Nat.blt n' big)
          (r (.run ⟨⟨f, n', [], .deferred, none⟩, ⟨⟨fn, n, ds, kd, rnd⟩, t, [], false⟩ :: cs, ls⟩ (argsT args 0 .lf) [.code c] h))
      | _ => false
def uwR (kd : Kd) (c : Fr) (cs : List Fr) (ls : T (Option Lp)) (h : H) (r : Cf → Bool) (l : List V) : Bool := match kd with
  | .normal => back c cs ls (packV l) h r
  | .deferred => match c with
    | ⟨x, t, _, b⟩ => bc b false (r (.ret ⟨x, cs, ls⟩ t h))
def unwind (E : Env) (k : K) (t : TV) (h : H) (r : Cf → Bool) : Bool :=
  match k with
  | ⟨⟨fn, n, dfs, kd, rnd⟩, cs, ls⟩ => match dfs with
    | d :: ds => uwD E d ds fn n kd rnd cs ls t h r
    | [] => match cs with
      | c :: cs => ok (Nat.blt fn big) <| ob (T.get none (paOf fn) E) fun x => (match x with
        | .code _ res _ => resV t h res (uwR kd c cs ls h r)
        | _ => false)
      | [] => false

def seqL (E : Env) (td : List I) (k : K) (r : Cf → Bool) (o : O) (ops : List O) (f : Lo) (t : TV) (h : H) : Bool := f t h (out E k t (.seq (o :: ops) :: td) r h)
def seqK (td : List I) (k : K) (r : Cf → Bool) (t : TV) (h : H) : Bool := r (.run k t td h)
def stSeq (E : Env) (ops : List O) (td : List I) (k : K) (t : TV) (h : H) (r : Cf → Bool) : Bool := quiets (seqK td k r) (seqL E td k r) ops t h

def stRd (E : Env) (ps : List PS) (td : List I) (k : K) (t : TV) (h : H) (r : Cf → Bool) : Bool :=
  match ps with
  | [] => r (.run k t td h)
  | .l o re :: ps => bc (wanted t o.g) (match o.s with
      | .l f => f t h (out E k t (.rd (.l o re :: ps) :: td) r h)
      | _ => false) (go k t (.rd (.l o re :: ps) :: td) undV h r)
  | .q _ :: _ => false

def stBr (td : List I) (k : K) (t : TV) (h : H) (r : Cf → Bool) : Bool :=
  match k with
  | ⟨⟨fn, n, dfs, kd, rnd⟩, cs, ls⟩ => match rnd with
    | some l => lget ls l fun L => (match L with
      | ⟨.ready, pending, fn', n', tmps, params, assign, body, defers⟩ => r (.run ⟨⟨fn, n, dfs, kd, some l⟩, cs, lput ls l ⟨.busy, pending, fn', n', tmps, params, assign, body, defers⟩⟩ t td h)
      | _ => false)
    | none => false

def pendI (p : Option C) (td : List I) : List I := match p with | some j => .code j :: td | none => td
def stErf (l : Pa) (td : List I) (k : K) (t : TV) (h : H) (r : Cf → Bool) : Bool :=
  match k with
  | ⟨x, cs, ls⟩ => lget ls l fun L => match L with
    | ⟨st, pending, fn', n', tmps, params, assign, body, defers⟩ => match st with
      | .busy => false
      | _ => r (.run ⟨x, cs, lput ls l ⟨.exhausted, pending, fn', n', tmps, params, assign, body, defers⟩⟩ t (pendI pending td) h)

def stRfE (E : Env) (f : Nat) (first cap : List V) (ps : List Pa) (assign body : C) (td : List I) (x : Fx) (cs : List Fr) (ls : T (Option Lp)) (t : TV) (d : Pa) (h : H) (r : Cf → Bool) : Bool := match h with
  | ⟨ht, nx⟩ => ok (Nat.blt nx big) (callR E f (first ++ [.fy (paOf nx)] ++ cap) ⟨x, cs, lput ls (paOf nx) ⟨.ready, none, x.fn, x.n, t, ps, assign, body, d⟩⟩ t (.rf (paOf nx) :: td) ⟨ht, Nat.succ nx⟩ r)
def stRf (E : Env) (f : Xv) (ps : List Pa) (assign body : C) (td : List I) (k : K) (t : TV) (h : H) (r : Cf → Bool) : Bool :=
  asFu (f t) (fun f first cap => match k with
    | ⟨⟨fn, n, dfs, kd, rnd⟩, cs, ls⟩ => match rnd with
      | some l => lget ls l fun L => stRfE E f first cap ps assign body td ⟨fn, n, dfs, kd, some l⟩ cs ls t L.defers h r
      | none => h.new (.dfd (some [])) fun d h => stRfE E f first cap ps assign body td ⟨fn, n, ⟨0, [], some d⟩ :: dfs, kd, none⟩ cs ls t d h r) (fun _ => false) fun _ _ _ => false

def stExit (id : Nat) (td : List I) (k : K) (t : TV) (h : H) (r : Cf → Bool) : Bool := match exitTo id td with
  | some td => r (.run k t td h)
  | none => leave k t h (some (.exit id)) r
def stGoto (l : Nat) (td : List I) (k : K) (t : TV) (h : H) (r : Cf → Bool) : Bool := match gotoIn l td with
  | some td => r (.run k t td h)
  | none => leave k t h (some (.goto l)) r
def stD (ps : List PS) (td : List I) (k : K) (t : TV) (h : H) (r : Cf → Bool) : Bool := batch (rdK k td r) ps t h
def stCond (x : Xv) (a b : List I → K → TV → H → (Cf → Bool) → Bool) (td : List I) (k : K) (t : TV) (h : H) (r : Cf → Bool) : Bool := asB (x t) fun x => bc x (a td k t h r) (b td k t h r)

/-- Down into code, as far as no operation is done. -/
abbrev St := List I → K → TV → H → (Cf → Bool) → Bool
def cSkip : St := fun td k t h r => r (.run k t td h)
def cSeq (_ b : C) (iha _ : St) : St := fun td => iha (.code b :: td)
def cCond (x : Xv) (_ _ : C) (iha ihb : St) : St := stCond x iha ihb
def cBlock (id : Nat) (_ : C) (ih : St) : St := fun td => ih (.blk id :: td)
def cLoop (c : C) (ih : St) : St := fun td => ih (.loop c :: td)
def cScope (c : C) (ih : St) : St := fun td => ih (.scope c :: td)
def cRf (E : Env) (f : Xv) (ps : List Pa) (assign body : C) (_ _ : St) : St := stRf E f ps assign body
def cRet : St := fun _ k t h r => leave k t h (some .ret) r
def cBad : St := fun _ _ _ _ _ => false
def stCode (E : Env) (c : C) : St := C.rec (motive := fun _ => St) cSkip (stSeq E) stD cSeq cCond cBlock cLoop (cRf E) stExit cScope (fun _ => cSkip) stGoto cRet cBad c

def stI (E : Env) (i : I) (td : List I) (k : K) (t : TV) (h : H) (r : Cf → Bool) : Bool := I.casesOn (motive := fun _ => Bool) i
  (fun c => stCode E c td k t h r) (fun _ => r (.run k t td h)) (fun c => stCode E c (.loop c :: td) k t h r) (fun _ => r (.run k t td h)) (fun ops => stSeq E ops td k t h r) (fun ps => stRd E ps td k t h r) (fun _ => false) (fun l => stErf l td k t h r) (stBr td k t h r)

def stTodo (E : Env) (todo : List I) (k : K) (t : TV) (h : H) (r : Cf → Bool) : Bool := List.casesOn (motive := fun _ => Bool) todo (leave k t h none r) fun i td => stI E i td k t h r
def step (E : Env) (c : Cf) (r : Cf → Bool) : Bool := Cf.casesOn (motive := fun _ => Bool) c (fun k t todo h => stTodo E todo k t h r) fun k t h => unwind E k t h r

/-- So many steps. -/
def stepS (E : Env) (_ : Nat) (ih : Cf → (Cf → Bool) → Bool) (c : Cf) (r : Cf → Bool) : Bool := step E c fun c => ih c r
def steps (E : Env) (n : Nat) : Cf → (Cf → Bool) → Bool := Nat.rec (motive := fun _ => Cf → (Cf → Bool) → Bool) (fun c r => r c) (stepS E) n

/-- The end: the lowest frame returns. -/
def final (E : Env) (f : Nat) (c : Cf) (r : V → Bool) : Bool :=
  match c with
  | .ret ⟨⟨fn, _, [], .normal, _⟩, [], _⟩ t h => ok (Nat.beq fn f && Nat.blt fn big) <| ob (T.get none (paOf fn) E) fun x => (match x with
    | .code _ res _ => resV t h res fun l => r (packV l)
    | _ => false)
  | _ => false

def start (E : Env) (f : Nat) (h : H) (r : Cf → Bool) : Bool := ob (T.get none (paOf f) E) fun x => match x with
  | .code n _ c => ok (Nat.blt n big) (r (.run ⟨⟨f, n, [], .normal, none⟩, [], .lf⟩ .lf [.code c] h))
  | _ => false
end
end PH.R
/-
  The reckoner, third part: a function's code, made ready.
-/
namespace PH.R
open Go
noncomputable section
namespace D
/-- How values of a type are held equal. -/
inductive Eq where
  | te (e : TE)
  | nilP | nilS | nilM | nilF | nilI
  | ptr
  | ifc (ts : List (Nat × TE))
  | no
/-! Operands -/
inductive X where
  | t (i : Nat)
  | c (v : V)
deriving Inhabited

inductive Op where
  | mv (x : X)
  | as (x : X)
  | pick (c a b : X)
  | new (el : Nat) (z : List V)
  | box (el n : Nat) (x : X)
  | build (z : List V) (ps : List (Nat × Nat × X))
  | bslice (el sz len : Nat) (z : List V) (ps : List (Nat × Nat × X))
  | load (n : Option Nat) (a : X)
  | store (n : Nat) (a x : X)
  | nilck (x : X)
  | arith (op : BinOp) (x y : X)
  | shift (op : BinOp) (x y : X)
  | str (op : BinOp) (x y : X)
  | eqv (neg : Bool) (m : Eq) (x y : X)
  | un (op : UnOp) (x : X)
  | cvInt (k : IntKind) (x : X)
  | cvSB (el : Nat) (x : X)
  | cvBS (x : X)
  | cvSR (el : Nat) (x : X)
  | cvIS (x : X)
  | cvPU (x : X)
  | cvUP (el n : Nat) (x : X)
  | toArr (n : Nat) (x : X)
  | mkI (t : Nat) (x : X)
  | mkF (f : Nat) (first cap : List X)
  | mkFM (name : String) (tbl : List (Nat × Nat × Rc)) (first : List X)
  | mkMap
  | mkSl (el sz bytes : Nat) (z : List V) (l c : X)
  | mkBy (el : Nat) (l c : X)
  | slStr (x : X) (lo hi : Option X)
  | slSl (sz : Nat) (x : X) (lo hi mx : Option X)
  | slArr (n sz : Nat) (x : X) (lo hi mx : Option X)
  | faddr (off : Nat) (x : X)
  | fld (off : Nat) (n : Option Nat) (x : X)
  | ixArr (len sz : Nat) (x i : X)
  | ixSl (sz : Nat) (x i : X)
  | ixStr (x i : X)
  | lookup (te : TE) (z : V) (ok : Bool) (m k : X)
  | mupd (te : TE) (m k x : X)
  | ment (te : TE) (z : V) (m k : X)
  | estore (m s x : X)
  | rngS (x : X)
  | rngM (x : X)
  | next (s : Bool) (it : X)
  | entry (it : X)
  | tass (t : Nat) (z : V) (ok : Bool) (x : X)
  | extr (i : Nat) (x : X)
  | len (x : X)
  | lenS (x : X)
  | lenM (x : X)
  | cap (x : X)
  | mm (mx : Bool) (xs : List X)
  | app (el sz bytes : Nat) (by0 : Bool) (s x : X)
  | appZ (el sz bytes : Nat) (by0 : Bool) (z : List V) (s x : X)
  | copy (sz : Nat) (d s : X)
  | clear (sz : Nat) (z : List V) (x : X)
  | clearM (x : X)
  | del (te : TE) (m k : X)
  | recover
  | usd (x : X)
  | ustr (el : Nat) (x n : X)
  | call (f : Nat) (args : List X)
  | callV (f : X) (args : List X)
  | inv (tbl : List (Nat × Nat × Rc)) (recv : X) (args : List X)
  | dfr (f : X) (args : List X)
  | bad
deriving Inhabited

structure O where
  d : Option Nat
  g : Option (Nat × Bool)
  op : Op
deriving Inhabited

/-- A step of a plan: a quiet operation; or a loud one, and those ahead of it that are to be looked at anew behind it. -/
inductive PS where
  | q (o : O)
  | l (o : O) (re : List O)

inductive C where
  | skip
  | reg (ops : List O)
  | regD (ps : List PS)
  | seq (a b : C)
  | cond (c : X) (a b : C)
  | block (id : Nat) (c : C)
  | loop (c : C)
  | rf (f : X) (ps : List Nat) (assign body : C)
  | exit (id : Nat)
  | scope (c : C)
  | label (l : Nat)
  | goto (l : Nat)
  | ret
  | bad
deriving Inhabited


inductive RV where
  | t (i : Nat)
  | c (a : Nat) (n : Option Nat)
inductive Fn where
  | code (n : Nat) (res : List RV) (c : C)
  | ext (e : Ext)
inductive TK where
  | bool | int (k : IntKind) | str | uns | ptr (e : Nat) | sl (e : Nat) | arr (n e : Nat) | map (k e : Nat)
  | st (fs : List (Nat × Nat × Bool)) | func | ifc | other


structure Ty where
  k : TK
  size : Nat
  bytes : Nat
  zero : Option V
  /-- May no '==' be asked of it? (Structs alone.) -/
  held : Bool

def Ty.agg (t : Ty) : Option Nat := match t.k with
  | .st _ | .arr _ _ => some t.size
  | _ => none
/-- Is it a byte's type? -/
def isU8 (t : Ty) : Bool := match t with
  | { k := .int .u8, size := 1, bytes := 1, zero := some (.i .u8 0), .. } => true
  | _ => false
def Ty.cells (t : Ty) : Option (List V) := t.zero.map vcells

mutual
def vOf : Value → Option V
  | .bool b => some (.b b)
  | .int k n => some (.i k n)
  | .string s => some (.s s.size (numOf s.data.toList))
  | .pointer none => some .pn
  | .slice none 0 0 => some .sn
  | .map none => some .mn
  | .nilFunc => some .fn
  | .nilIface => some .ni
  | .iface t v => match vOf v with | some v => some (.ic t v) | none => none
  | .func (.func f) ⟨[]⟩ ⟨[]⟩ => some (.fu f [] [])
  | .agg ⟨l⟩ => match vsOf l with | some l => some (.ag l) | none => none
  | .tuple ⟨l⟩ => match vsOf l with | some l => some (.tu l) | none => none
  | _ => none
def vsOf : List Value → Option (List V)
  | [] => some []
  | v :: l => match vOf v, vsOf l with
    | some x, some r => some (x :: r)
    | _, _ => none
def numOf : List UInt8 → Nat
  | [] => 0
  | b :: l => b.toNat + 256 * numOf l
end

def kOf : TypeDesc → TK
  | .bool => .bool
  | .int k => .int k
  | .string => .str
  | .unsafePointer => .uns
  | .pointer e => .ptr e
  | .slice e => .sl e
  | .array n e => .arr n e
  | .map k e => .map k e
  | .struct fs => .st (fs.toList.map fun f => (f.offset, f.type, f.name == "_"))
  | .func .. => .func
  | .interface _ => .ifc
  | _ => .other
def tyOf (P : Program) (t : Nat) : Option Ty := match P.info? t, P.underlying t with
  | some i, some d => some { k := kOf d, size := i.size, bytes := i.bytes, zero := i.zero.bind vOf, held := P.stoodInHeld t || P.eqGuardType P.depth t }
  | _, _ => none

def xOf (gs : Nat) : Operand → Option X
  | .tmp t => if Nat.blt t big then some (.t t) else none
  | .const v => (vOf v).map .c
  | .global g => if g < gs then some (.c (.p (paOf g) 0)) else none
  | .func f => some (.c (.fu f [] []))
def xsOf (gs : Nat) : List Operand → Option (List X)
  | [] => some []
  | x :: l => match xOf gs x, xsOf gs l with
    | some x, some l => some (x :: l)
    | _, _ => none
def xo (gs : Nat) : Option Operand → Option (Option X)
  | none => some none
  | some x => (xOf gs x).map some
def partsOf (gs : Nat) (place : Nat → Option (Nat × Nat)) : List (Nat × Operand) → Option (List (Nat × Nat × X))
  | [] => some []
  | (i, x) :: l => match place i, xOf gs x, partsOf gs place l with
    | some (o, s), some x, some l => some ((o, s, x) :: l)
    | _, _, _ => none
def isC : Operand → Bool
  | .const (.pointer none) | .const (.slice none _ _) | .const (.map none) | .const .nilFunc | .const .nilIface => true
  | _ => false

section
variable (ty : Nat → Option Ty) (ms : String → List (Nat × Nat × Rc)) (ts : List (Nat × TE)) (gs : Nat)

mutual
/-- How values of a type made of numbers, texts and truths alone are held equal. -/
def teOf : Nat → Nat → Option TE
  | 0, _ => none
  | d + 1, t => match ty t with
    | some i => match i.k with
      | .bool => some .bool
      | .int _ => some .int
      | .str => some .str
      | .arr n e => (match ty e with
        | some j => if j.size = 1 ∧ i.size = n ∧ i.held = false then (match j.k with
          | .bool => some (.arr n .bool)
          | .int _ => some (.arr n .int)
          | .str => some (.arr n .str)
          | _ => none) else none
        | none => none)
      | .st fs => if i.held then none else match teFs d fs with
        | some l => some (.st l)
        | none => none
      | _ => none
    | none => none
def teFs : Nat → List (Nat × Nat × Bool) → Option (List (Nat × Nat × TE))
  | 0, _ => none
  | _ + 1, [] => some []
  | d + 1, (off, t, blank) :: fs => if blank then none else match ty t, teOf d t, teFs d fs with
    | some i, some e, some l => some ((off, i.size, e) :: l)
    | _, _, _ => none
end

def eqOf (t : Nat) (x y : Operand) : Eq :=
  match ty t with
  | some { k := .bool, .. } => .te .bool
  | some { k := .ptr e, .. } => if isC x || isC y then .nilP else match ty e with
    | some j => if j.size = 0 then .no else .ptr
    | none => .no
  | some { k := .ifc, .. } => if isC x || isC y then .nilI else .ifc ts
  | some { k := .sl _, .. } => .nilS
  | some { k := .map _ _, .. } => .nilM
  | some { k := .func, .. } => .nilF
  | some { k := .st _, .. } | some { k := .arr _ _, .. } => match teOf ty 40 t with | some e => .te e | none => .no
  | _ => .no

def callOp (c : Call) : Option Op := do
  let args ← xsOf gs c.args.toList
  match c.callee with
  | .value (.func f) => pure (.call f args)
  | .value f => pure (.callV (← xOf gs f) args)
  | .invoke r n => pure (.inv (ms n) (← xOf gs r) args)
  | .builtin b =>
    match b, args, c.argTypes.toList with
    | .len, [x], [t] => match (← ty t).k with
      | .arr n _ => pure (.mv (.c (.i .i64 n)))
      | .str => pure (.lenS x)
      | .sl _ => pure (.len x)
      | .map _ _ => pure (.lenM x)
      | _ => none
    | .cap, [x], [t] => match (← ty t).k with
      | .sl _ => pure (.cap x)
      | _ => none
    | .min, x :: xs, _ => pure (.mm false (x :: xs))
    | .max, x :: xs, _ => pure (.mm true (x :: xs))
    | .append, [s, x], [st, xt] => match (← ty st).k with
      | .sl e =>
        let i ← ty e
        let z ← i.cells
        if Nat.beq z.length i.size then match (← ty xt).k with
          | .int _ => pure (.appZ e i.size i.bytes (isU8 i) z s x)
          | _ => pure (.app e i.size i.bytes (isU8 i) s x)
        else none
      | _ => none
    | .copy, [d, s], [t, _] => match (← ty t).k with
      | .sl e => pure (.copy (← ty e).size d s)
      | _ => none
    | .clear, [x], [t] => match (← ty t).k with
      | .sl e => do let i ← ty e; pure (.clear i.size (← i.cells) x)
      | .map _ _ => pure (.clearM x)
      | _ => none
    | .delete, [m, k], [t, _] => match (← ty t).k with
      | .map kt _ => pure (.del (← teOf ty 40 kt) m k)
      | _ => none
    | .recover, [], _ => pure .recover
    | .unsafeSliceData, [x], _ => pure (.usd x)
    | .unsafeString, [p, n], [t, _] => match (← ty t).k with
      | .ptr e => do let i ← ty e; if isU8 i then pure (.ustr e p n) else none
      | _ => none
    | _, _, _ => none

def placeOf (fs : List (Nat × Nat × Bool)) (k : Nat) : Option (Nat × Nat) := match fs[k]? with
  | some f => (match ty f.2.1 with
    | some i => some (f.1, i.size)
    | none => none)
  | none => none
def opOf (o : Oper) : Option Op :=
  match o.op with
  | .move x => do pure (.mv (← xOf gs x))
  | .assign x => do pure (.as (← xOf gs x))
  | .pick c a b => do pure (.pick (← xOf gs c) (← xOf gs a) (← xOf gs b))
  | .alloc e => do pure (.new e (← (← ty e).cells))
  | .box e x => do pure (.box e (← ty e).size (← xOf gs x))
  | .build t ps => do
    let i ← ty t
    let z ← i.cells
    match i.k with
    | .st fs => if fs.all (fun f => (ty f.2.1).isSome) then (partsOf gs (placeOf ty fs) ps.toList).map (.build z) else none
    | .arr _ e => do
      let n := (← ty e).size
      pure (.build z (← partsOf gs (fun k => some (k * n, n)) ps.toList))
    | _ => none
  | .buildSlice t len ps => do
    match (← ty t).k with
    | .sl e => do
      let i ← ty e
      if len * i.size > 16777216 then none else pure (.bslice e i.size len (← i.cells) (← partsOf gs (fun k => some (k * i.size, i.size)) ps.toList))
    | _ => none
  | .load t a => do pure (.load (← ty t).agg (← xOf gs a))
  | .store t a x => do pure (.store (← ty t).size (← xOf gs a) (← xOf gs x))
  | .nilCheck x => do pure (.nilck (← xOf gs x))
  | .binOp op t x y _ => do
    let i ← ty t
    match i.k, op with
    | .int _, .shl | .int _, .shr => pure (.shift op (← xOf gs x) (← xOf gs y))
    | .int _, _ => pure (.arith op (← xOf gs x) (← xOf gs y))
    | .str, _ => pure (.str op (← xOf gs x) (← xOf gs y))
    | _, .eql => pure (.eqv false (eqOf ty ts t x y) (← xOf gs x) (← xOf gs y))
    | _, .neq => pure (.eqv true (eqOf ty ts t x y) (← xOf gs x) (← xOf gs y))
    | _, _ => none
  | .unOp op _ x => do pure (.un op (← xOf gs x))
  | .convert src dst x => do
    match (← ty src).k, (← ty dst).k with
    | .int _, .int k => pure (.cvInt k (← xOf gs x))
    | .str, .str => pure (.slStr (← xOf gs x) none none)
    | .str, .sl e => match (← ty e).k with
      | .int .u8 => pure (.cvSB e (← xOf gs x))
      | .int .i32 => pure (.cvSR e (← xOf gs x))
      | _ => none
    | .sl e, .str => match (← ty e).k with
      | .int .u8 => pure (.cvBS (← xOf gs x))
      | _ => none
    | .int _, .str => pure (.cvIS (← xOf gs x))
    | .ptr e, .uns => do if (← ty e).size = 0 then none else pure (.cvPU (← xOf gs x))
    | .uns, .ptr e => do pure (.cvUP e (← ty e).size (← xOf gs x))
    | _, _ => none
  | .sliceToArrayPointer t x => do
    match (← ty t).k with
    | .arr n _ => pure (.toArr n (← xOf gs x))
    | _ => none
  | .makeInterface t x => do
    match (← ty t).k with
    | .ifc => none
    | _ => pure (.mkI t (← xOf gs x))
  | .makeFunc (.func f) first cap => do pure (.mkF f (← xsOf gs first.toList) (← xsOf gs cap.toList))
  | .makeFunc (.method n) first ⟨[]⟩ => do pure (.mkFM n (ms n) (← xsOf gs first.toList))
  | .makeMap _ none => some .mkMap
  | .makeSlice t l c => do
    match (← ty t).k with
    | .sl e => do let i ← ty e; if isU8 i then pure (.mkBy e (← xOf gs l) (← xOf gs c)) else pure (.mkSl e i.size i.bytes (← i.cells) (← xOf gs l) (← xOf gs c))
    | _ => none
  | .slice t x lo hi mx => do
    match (← ty t).k with
    | .str => if mx.isNone then pure (.slStr (← xOf gs x) (← xo gs lo) (← xo gs hi)) else none
    | .sl e => if mx.isSome && hi.isNone then none else pure (.slSl (← ty e).size (← xOf gs x) (← xo gs lo) (← xo gs hi) (← xo gs mx))
    | .arr n e => if mx.isSome && hi.isNone then none else pure (.slArr n (← ty e).size (← xOf gs x) (← xo gs lo) (← xo gs hi) (← xo gs mx))
    | _ => none
  | .fieldAddr s x f => do
    match (← ty s).k with
    | .st fs => do
      let f ← fs[f]?
      if (← ty f.2.1).size = 0 then none else pure (.faddr f.1 (← xOf gs x))
    | _ => none
  | .field s x f => do
    match (← ty s).k with
    | .st fs => do
      let f ← fs[f]?
      pure (.fld f.1 (← ty f.2.1).agg (← xOf gs x))
    | _ => none
  | .indexAddr t x i => do
    match (← ty t).k with
    | .arr n e => pure (.ixArr n (← ty e).size (← xOf gs x) (← xOf gs i))
    | .sl e => pure (.ixSl (← ty e).size (← xOf gs x) (← xOf gs i))
    | _ => none
  | .index t x i => do
    match (← ty t).k with
    | .str => pure (.ixStr (← xOf gs x) (← xOf gs i))
    | _ => none
  | .lookup t m k ok => do
    match (← ty t).k with
    | .map kt e => pure (.lookup (← teOf ty 40 kt) (← (← ty e).zero) ok (← xOf gs m) (← xOf gs k))
    | _ => none
  | .mapUpdate t m k x => do
    match (← ty t).k with
    | .map kt _ => pure (.mupd (← teOf ty 40 kt) (← xOf gs m) (← xOf gs k) (← xOf gs x))
    | _ => none
  | .mapEntry t m k => do
    match (← ty t).k with
    | .map kt e => pure (.ment (← teOf ty 40 kt) (← (← ty e).zero) (← xOf gs m) (← xOf gs k))
    | _ => none
  | .entryStore _ m s x => do pure (.estore (← xOf gs m) (← xOf gs s) (← xOf gs x))
  | .range t x => do
    match (← ty t).k with
    | .str => pure (.rngS (← xOf gs x))
    | .map _ _ => pure (.rngM (← xOf gs x))
    | _ => none
  | .next it s => do pure (.next s (← xOf gs it))
  | .entry it => do pure (.entry (← xOf gs it))
  | .typeAssert x _ t ok => do
    match (← ty t).k with
    | .ifc => none
    | _ => pure (.tass t (← (← ty t).zero) ok (← xOf gs x))
  | .extract x i => do pure (.extr i (← xOf gs x))
  | .call c => callOp ty ms gs c
  | .defer c => do
    let args ← xsOf gs c.args.toList
    match c.callee with
    | .value f => pure (.dfr (← xOf gs f) args)
    | _ => none
  | _ => none

def oOf (n : Nat) (ops : Array Oper) (o : Oper) : O :=
  if o.dst.any (n ≤ ·) then { d := o.dst, g := none, op := .bad } else
  match opOf ty ms ts gs o with
  | none => { d := o.dst, g := none, op := .bad }
  | some op => match o.guard with
    | none => { d := o.dst, g := none, op }
    | some (j, want) => match (ops[j]?).bind (·.dst) with
      | some t => if Nat.blt t n then { d := o.dst, g := some (t, want), op } else { d := o.dst, g := none, op := .bad }
      | none => { d := o.dst, g := none, op := .bad }

def loudO : Op → Bool
  | .as _ | .store .. | .mupd .. | .ment .. | .estore .. | .rngS _ | .rngM _ | .next .. | .app .. | .appZ .. | .copy .. | .clear .. | .clearM _ | .del .. | .recover | .ustr .. | .call .. | .callV .. | .inv .. | .dfr .. | .bad => true
  | _ => false

/-! Plans -/
def bitsOf (n m : Nat) : List Nat := (List.range n).filter fun i => m.testBit i
def direct (o : Oper) : Nat := o.after.foldl (fun s e => if Region.binds .any e then s ||| 2 ^ e.on else s) 0

def planFrom (os : List O) (dep clo : List Nat) : (fuel done loudClo : Nat) → Option (List PS)
  | 0, _, _ => none
  | f + 1, done, lc =>
    let n := os.length
    let ready := (List.range n).filter fun i => !done.testBit i && ((dep.getD i 0) &&& done == dep.getD i 0)
    match ready.find? fun i => !loudO (os.getD i default).op with
    | some i => do pure (.q (os.getD i default) :: (← planFrom os dep clo f (done ||| 2 ^ i) lc))
    | none => match ready with
      | [] => some []
      | [i] => do
        let lc := lc ||| clo.getD i 0
        let re := (List.range n).filter fun j => done.testBit j && !lc.testBit j && !loudO (os.getD j default).op
        pure (.l (os.getD i default) (re.map fun j => os.getD j default) :: (← planFrom os dep clo f (done ||| 2 ^ i) lc))
      | _ => none

/-- What an operation looks at: its operands; whether it is wanted. -/
def looksAt (ops : List Oper) (o : Oper) : List Nat :=
  (o.op.operands.toList.filterMap fun | .tmp t => some t | _ => none) ++
  (match o.guard with
   | some (g, _) => ((ops[g]?).bind (·.dst)).toList
   | none => [])
def edgesOk (ops : List Oper) : Bool := ops.zipIdx.all fun (o, i) => o.after.all fun e => !Region.binds .any e || Nat.blt e.on i
/-! What quiet operations look at -/
def X.uses : X → List Nat
  | .t i => [i]
  | .c _ => []
def usesL : List X → List Nat
  | [] => []
  | x :: l => x.uses ++ usesL l
def usesO : Option X → List Nat
  | none => []
  | some x => x.uses
def usesP : List (Nat × Nat × X) → List Nat
  | [] => []
  | (_, _, x) :: l => x.uses ++ usesP l
def Op.uses : Op → List Nat
  | .mv x | .box _ _ x | .load _ x | .nilck x | .un _ x | .cvInt _ x | .cvSB _ x | .cvBS x | .cvSR _ x | .cvIS x | .cvPU x | .cvUP _ _ x | .toArr _ x | .mkI _ x
  | .faddr _ x | .fld _ _ x | .entry x | .tass _ _ _ x | .extr _ x | .len x | .lenS x | .lenM x | .cap x | .usd x => x.uses
  | .arith _ x y | .shift _ x y | .str _ x y | .eqv _ _ x y | .mkSl _ _ _ _ x y | .mkBy _ x y | .ixArr _ _ x y | .ixSl _ x y | .ixStr x y | .lookup _ _ _ x y => x.uses ++ y.uses
  | .pick c a b => c.uses ++ (a.uses ++ b.uses)
  | .build _ ps | .bslice _ _ _ _ ps => usesP ps
  | .mkF _ a c => usesL a ++ usesL c
  | .mkFM _ _ a => usesL a
  | .mm _ l => usesL l
  | .slStr x a b => x.uses ++ (usesO a ++ usesO b)
  | .slSl _ x a b c | .slArr _ _ x a b c => x.uses ++ (usesO a ++ (usesO b ++ usesO c))
  | _ => []
def O.uses (o : O) : List Nat := (match o.g with | some (t, _) => [t] | none => []) ++ o.op.uses
/-- No temporary that a quiet operation writes is written by another such, or looked at, but behind it. -/
def ssaOk (ops : List Oper) (os : List O) (clo : List Nat) : Bool := (List.range ops.length).all fun j => match os[j]?, ops[j]? with
  | some q, some p => loudO q.op || (q.uses.all fun u => Nat.blt u big && (looksAt ops p).contains u) && (match p.dst with
    | none => false
    | some d => (List.range ops.length).all fun i => match ops[i]? with
      | some o => (Nat.beq i j || o.dst != some d) && (!(looksAt ops o).contains d || (clo.getD i 0).testBit j)
      | none => false)
  | _, _ => false
def planOf (n : Nat) (ops : Array Oper) : Option (List PS) :=
  let os := ops.toList.map (oOf ty ms ts gs n ops)
  let clo := (Region.before ops).toList
  if edgesOk ops.toList && ssaOk ops.toList os clo then planFrom os (ops.toList.map direct) clo (os.length + 1) 0 0 else none

def cOf (n : Nat) : Code → C
  | .skip => .skip
  | .region _ ops false => .reg (ops.toList.map (oOf ty ms ts gs n ops))
  | .region _ ops true => match planOf ty ms ts gs n ops with
    | some ps => .regD ps
    | none => .bad
  | .seq a b => .seq (cOf n a) (cOf n b)
  | .cond c a b => match xOf gs c with
    | some c => .cond c (cOf n a) (cOf n b)
    | none => .bad
  | .block id c => .block id (cOf n c)
  | .loop c => .loop (cOf n c)
  | .rangeFunc f ps a b => match xOf gs f with
    | some f => if ps.any (n ≤ ·) then .bad else .rf f ps.toList (cOf n a) (cOf n b)
    | none => .bad
  | .exit id => .exit id
  | .scope c => .scope (cOf n c)
  | .label l => .label l
  | .goto l => .goto l
  | .ret => .ret
  | .refuse _ => .bad

def resOf : List ResultVar → Option (List RV)
  | [] => some []
  | .tmp t :: l => if Nat.blt t big then match resOf l with | some r => some (.t t :: r) | none => none else none
  | .cell a t :: l => if Nat.blt a big then match ty t, resOf l with | some i, some r => some (.c a i.agg :: r) | _, _ => none else none

def extOf (fn : Func) : Option Ext :=
  match fn.name with
  | "sync/atomic.LoadInt64" => some (.load .i64)
  | "sync/atomic.LoadUint32" => some (.load .u32)
  | "sync/atomic.StoreInt64" | "sync/atomic.StoreUint32" => some .store
  | "sync/atomic.AddInt64" => some (.add .i64)
  | "sync/atomic.AddInt32" => some (.add .i32)
  | "sync/atomic.CompareAndSwapInt32" => some (.cas .i32)
  | "internal/race.Disable" | "internal/race.Enable" => some .nop
  | "internal/race.Acquire" | "internal/race.ReleaseMerge" => some .nopA
  | "internal/abi.NoEscape" => some .same
  | "internal/bytealg.IndexByteString" => some .idxByte
  | "internal/bytealg.MakeNoZero" => match fn.resultTypes.toList with
    | [t] => match ty t with
      | some { k := .sl e, .. } => some (.noZero e)
      | _ => none
    | _ => none
  | _ => none

def fnOf (fn : Func) : Option Fn :=
  match fn.body with
  | some c => match resOf ty fn.results.toList with
    | some r => some (.code fn.ntmps r (cOf ty ms ts gs fn.ntmps c))
    | none => none
  | none => match extOf ty fn with
    | some e => some (.ext e)
    | none => none
end

/-- The methods of a name: of which type, which function, and how its receiver is made. -/
def methsOf (P : Program) (ty : Nat → Option Ty) (n : String) : List (Nat × Nat × Rc) :=
  (List.range P.types.size).filterMap fun t => do
    let i ← P.types[t]?
    let m ← i.methods.find? (·.name == n)
    if !m.path.isEmpty then none
    let (f, ptr) ← m.func
    match (← ty t).k, ptr with
    | .ptr _, true => pure (t, f, .id)
    | .ptr e, false => pure (t, f, .deref (← ty e).agg)
    | _, true => none
    | _, false => pure (t, f, .id)

end D

/-! From written code to closures -/
def sX : D.X → Xv
  | .t i => xt (paOf i)
  | .c v => xc v
def sXs : List D.X → List Xv
  | [] => []
  | x :: l => sX x :: sXs l
def sXo : Option D.X → Option Xv
  | none => none
  | some x => some (sX x)
def sPs : List (Nat × Nat × D.X) → List (Nat × Nat × Xv)
  | [] => []
  | (a, b, x) :: l => (a, b, sX x) :: sPs l
def sEq : D.Eq → V → V → Option Bool
  | .te e => eqTE e
  | .nilP => eqNilP
  | .nilS => eqNilS
  | .nilM => eqNilM
  | .nilF => eqNilF
  | .nilI => eqNilI
  | .ptr => eqPtr
  | .ifc ts => eqIfc ts
  | .no => fun _ _ => none
def sOp : D.Op → S
  | .mv x => .q (qMv (sX x))
  | .as x => .l (lAs (sX x))
  | .pick c a b => .q (qPick (sX c) (sX a) (sX b))
  | .new el z => .a (aNew el z)
  | .box el n x => .a (aBox el n (sX x))
  | .build z ps => .q (qBuild z (sPs ps))
  | .bslice el sz len z ps => .a (aBslice el sz len z (sPs ps))
  | .load none a => .q (qLoad1 (sX a))
  | .load (some n) a => .q (qLoadN n (sX a))
  | .store n a x => .l (lStore n (sX a) (sX x))
  | .nilck x => .q (qNilck (sX x))
  | .arith op x y => (match op with
    | .add => .q (qI iAdd (sX x) (sX y))
    | .sub => .q (qI iSub (sX x) (sX y))
    | .mul => .q (qI iMul (sX x) (sX y))
    | .quo => .q (qI iQuo (sX x) (sX y))
    | .rem => .q (qI iRem (sX x) (sX y))
    | .and => .q (qI iAnd (sX x) (sX y))
    | .or => .q (qI iOr (sX x) (sX y))
    | .xor => .q (qI iXor (sX x) (sX y))
    | .andNot => .q (qI iAndNot (sX x) (sX y))
    | .eql => .q (qI iEql (sX x) (sX y))
    | .neq => .q (qI iNeq (sX x) (sX y))
    | .lss => .q (qI iLss (sX x) (sX y))
    | .leq => .q (qI iLeq (sX x) (sX y))
    | .gtr => .q (qI iGtr (sX x) (sX y))
    | .geq => .q (qI iGeq (sX x) (sX y))
    | _ => .l lBad)
  | .shift op x y => (match op with
    | .shl => .q (qSh iShl (sX x) (sX y))
    | .shr => .q (qSh iShr (sX x) (sX y))
    | _ => .l lBad)
  | .str op x y => (match op with
    | .add => .q (qStr sAdd (sX x) (sX y))
    | .eql => .q (qStr sEql (sX x) (sX y))
    | .neq => .q (qStr sNeq (sX x) (sX y))
    | .lss => .q (qStr sLss (sX x) (sX y))
    | .leq => .q (qStr sLeq (sX x) (sX y))
    | .gtr => .q (qStr sGtr (sX x) (sX y))
    | .geq => .q (qStr sGeq (sX x) (sX y))
    | _ => .l lBad)
  | .eqv neg m x y => .q (qEqv neg (sEq m) (sX x) (sX y))
  | .un .not x => .q (qNot (sX x))
  | .un .neg x => .q (qNeg (sX x))
  | .un _ _ => .l lBad
  | .cvInt k x => .q (qInt k (sX x))
  | .cvSB el x => .a (aSB el (sX x))
  | .cvBS x => .q (qBS (sX x))
  | .cvSR el x => .a (aSR el (sX x))
  | .cvIS x => .q (qIS (sX x))
  | .cvPU x => .q (qPU (sX x))
  | .cvUP el n x => .q (qUP el n (sX x))
  | .toArr n x => .q (qArr n (sX x))
  | .mkI t x => .q (qMkI t (sX x))
  | .mkF f first cap => .q (qMkF f (sXs first) (sXs cap))
  | .mkFM name tbl first => .q (qMkFM name tbl (sXs first))
  | .mkMap => .a aMap
  | .mkSl el sz bytes z l c => .a (aMkSl el sz bytes z (sX l) (sX c))
  | .mkBy el l c => .a (aMkBy el (sX l) (sX c))
  | .slStr x lo hi => .q (qSlStr (sX x) (sXo lo) (sXo hi))
  | .slSl sz x lo hi mx => .q (qSlSl sz (sX x) (sXo lo) (sXo hi) (sXo mx))
  | .slArr n sz x lo hi mx => .q (qSlArr n sz (sX x) (sXo lo) (sXo hi) (sXo mx))
  | .faddr off x => .q (qFaddr off (sX x))
  | .fld off none x => .q (qFld1 off (sX x))
  | .fld off (some n) x => .q (qFldN off n (sX x))
  | .ixArr len sz x i => .q (qIxArr len sz (sX x) (sX i))
  | .ixSl sz x i => .q (qIxSl sz (sX x) (sX i))
  | .ixStr x i => .q (qIxStr (sX x) (sX i))
  | .lookup te z ok m k => .q (qLookup te z ok (sX m) (sX k))
  | .mupd te m k x => .l (lMupd te (sX m) (sX k) (sX x))
  | .ment te z m k => .l (lMent te z (sX m) (sX k))
  | .estore m s x => .l (lEstore (sX m) (sX s) (sX x))
  | .rngS x => .l (lRngS (sX x))
  | .rngM x => .l (lRngM (sX x))
  | .next s it => .l (lNext s (sX it))
  | .entry it => .q (qEntry (sX it))
  | .tass t z ok x => .q (qTass t z ok (sX x))
  | .extr i x => .q (qExtr i (sX x))
  | .len x => .q (qLen (sX x))
  | .lenS x => .q (qLenS (sX x))
  | .lenM x => .q (qLenM (sX x))
  | .cap x => .q (qCap (sX x))
  | .mm mx (x :: xs) => .q (qMm mx (sX x) (sXs xs))
  | .mm _ [] => .l lBad
  | .app el sz bytes by0 s x => .l (lApp el sz bytes by0 (sX s) (sX x))
  | .appZ el sz bytes by0 z s x => .l (lAppZ el sz bytes by0 z (sX s) (sX x))
  | .copy sz d s => .l (lCopy sz (sX d) (sX s))
  | .clear sz z x => .l (lClearS sz z (sX x))
  | .clearM x => .l (lClearM (sX x))
  | .del te m k => .l (lDel te (sX m) (sX k))
  | .recover => .l lRecover
  | .usd x => .q (qUsd (sX x))
  | .ustr el x n => .l (lUstr el (sX x) (sX n))
  | .call f args => .l (lCall f (sXs args))
  | .callV f args => .l (lCallV (sX f) (sXs args))
  | .inv tbl r args => .l (lInv tbl (sX r) (sXs args))
  | .dfr f args => .l (lDfr (sX f) (sXs args))
  | .bad => .l lBad
def sD : Option Nat → Option Pa
  | none => none
  | some d => some (paOf d)
def sG : Option (Nat × Bool) → Option (Pa × Bool)
  | none => none
  | some (a, b) => some (paOf a, b)
def sO (o : D.O) : O := ⟨sD o.d, sG o.g, sOp o.op⟩
def sOs : List D.O → List O
  | [] => []
  | o :: l => sO o :: sOs l
def sPSs : List D.PS → List PS
  | [] => []
  | .q o :: l => .q (sO o) :: sPSs l
  | .l o re :: l => .l (sO o) (sOs re) :: sPSs l
def sPas : List Nat → List Pa
  | [] => []
  | n :: l => paOf n :: sPas l
def sC : D.C → C
  | .skip => .skip
  | .reg ops => .reg (sOs ops)
  | .regD ps => .regD (sPSs ps)
  | .seq a b => .seq (sC a) (sC b)
  | .cond c a b => .cond (sX c) (sC a) (sC b)
  | .block id c => .block id (sC c)
  | .loop c => .loop (sC c)
  | .rf f ps a b => .rf (sX f) (sPas ps) (sC a) (sC b)
  | .exit id => .exit id
  | .scope c => .scope (sC c)
  | .label l => .label l
  | .goto l => .goto l
  | .ret => .ret
  | .bad => .bad
def sRVs : List D.RV → List RV
  | [] => []
  | .t i :: l => .t (paOf i) :: sRVs l
  | .c a n :: l => .c (paOf a) n :: sRVs l
def sFn : D.Fn → Fn
  | .code n res c => .code n (sRVs res) (sC c)
  | .ext e => .ext e
end
end PH.R
/-
  The reckoner, what the cut runs are made of: no program in sight.
-/
namespace PH.R
open Go
noncomputable section
/-- A row that is read alone. -/
def layB (e : List V × Nat) : B := .row (.li e.1) (lenL e.1 0) 0 e.2
def layT (l : List (Nat × List V × Nat)) : T (Option B) := l.foldl (fun t e => T.set none (some (layB e.2)) (paOf e.1) t) .lf
/-- A heap's objects, those of a list alone. -/
def gcT (h : T (Option B)) (l : List Pa) : T (Option B) → T (Option B) := List.rec (motive := fun _ => T (Option B) → T (Option B)) (fun t => t) (fun b _ ih t => ih (Option.casesOn (motive := fun _ => T (Option B)) (T.get none b h) t fun x => T.set none (some x) b t)) l
def gcH (l : List Pa) (h : H) : H := ⟨gcT h.h l .lf, h.next⟩
def gcC (l : List Pa) (c : Cf) : Cf := Cf.casesOn (motive := fun _ => Cf) c (fun k t todo h => .run k t todo h) fun k t h => .ret ⟨k.x, k.cs, .lf⟩ t (gcH l h)
/-! Parts of written code, for a configuration's text. -/
def cL (c : C) : C := match c with | .seq a _ => a | .cond _ a _ => a | .block _ c => c | .loop c => c | .scope c => c | .rf _ _ a _ => a | c => c
def cR (c : C) : C := match c with | .seq _ b => b | .cond _ _ b => b | .rf _ _ _ b => b | c => c
def cO (c : C) : List O := match c with | .reg l => l | _ => []
def cP (c : C) : List PS := match c with | .regD l => l | _ => []
def tL (v : V) : T V := .nd v .lf .lf .lf .lf
def tZ : T V := .lf
def bL (x : B) : T (Option B) := .nd (some x) .lf .lf .lf .lf
def bZ : T (Option B) := .lf
end
end PH.R
