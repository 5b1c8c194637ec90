/-
  SYMBOLIC RUNS over the model (own framework, part 15): what a piece of code does, as a statement that computing alone lays out: values as known (XV), own blocks by numbers of the proof's own,
  conditions that are left to be shown. Definitions.
-/
import Derived.Test.YtljgkjkdmoejfaaAvIf
import Derived.Test.YtljgkjkdmoejfaaAvDrw
set_option linter.unusedVariables false
set_option linter.unusedSimpArgs false
namespace Go.Proofs.YtljgkjkdmoejfaaAv
open Go Go.RowKit

/-- A value as it is known; own blocks bear numbers of the proof's own. -/
inductive XV where
  | v (a : AV)
  | sl (id sz off n : Nat)
  | ptr (id sz i o : Nat)
  | fz (n sz : Nat) (f : Nat → List XV)
  | fzc (n sz : Nat) (f : Nat → List XV)
  | fp (cs : List XV)
  | fsel (cs : List XV) (j : Nat)
  | agg (cs : List XV)
  | tup (cs : List XV)
  | gd (c : Bool) (k : Option Nat) (x : XV)
  | top
  deriving Inhabited

/-- An own block: a variable's cells, or elements of sz cells each. -/
inductive XRow where
  | one (e : TypeId) (ap : Bool) (cs : List XV)
  | vec (e : TypeId) (ap : Bool) (n sz : Nat) (f : Nat → List XV)
  /-- one element by itself -/
  | vecU (e : TypeId) (ap : Bool) (n sz i : Nat) (cs : List XV) (f : Nat → List XV)

structure XS where
  s : List (Nat × XV)
  h : List (Nat × XRow)
  nx : Nat
  pn : Bool := false
  gs : List XV := []

def plR : XRow → XRow
  | .vecU e ap n sz i cs f => .vec e ap n sz fun j => bif Nat.beq j i then cs else f j
  | r => r
def plH : List (Nat × XRow) → List (Nat × XRow)
  | [] => []
  | (d, r) :: l => (d, plR r) :: plH l
/-- No element by itself. -/
def XS.pl (S : XS) : XS := { S with h := plH S.h }

def kb : IntKind → IntKind → Bool
  | .i8, .i8 => true
  | .i16, .i16 => true
  | .i32, .i32 => true
  | .i64, .i64 => true
  | .u8, .u8 => true
  | .u16, .u16 => true
  | .u32, .u32 => true
  | .u64, .u64 => true
  | _, _ => false
theorem kb_eq {k k' : IntKind} (h : kb k k' = true) : k = k' := by
  cases k <;> cases k' <;> first | rfl | cases h
def nth {α : Type _} : List α → Nat → Option α
  | [], _ => none
  | x :: _, 0 => some x
  | _ :: l, i + 1 => nth l i
theorem nth_eq {α : Type _} : ∀ (l : List α) (i : Nat), nth l i = l[i]?
  | [], _ => by simp [nth]
  | x :: l, 0 => by simp [nth]
  | x :: l, i + 1 => by simp [nth, nth_eq l i]

def look : List (Nat × XV) → Nat → XV
  | [], _ => .top
  | (d, v) :: l, i => bif Nat.beq i d then v else look l i
def findR : List (Nat × XRow) → Nat → Option XRow
  | [], _ => none
  | (d, r) :: l, i => bif Nat.beq i d then some r else findR l i
def delR : List (Nat × XRow) → Nat → List (Nat × XRow)
  | [], _ => []
  | (d, r) :: l, i => bif Nat.beq i d then delR l i else (d, r) :: delR l i

def gxs : List GV → List XV
  | [] => []
  | .val v :: l => .v (.p v) :: gxs l
  | .int _ :: l => .top :: gxs l
  | .ifc :: l => .top :: gxs l
def xev (s : List (Nat × XV)) : Operand → XV
  | .tmp n => look s n
  | .const v => .v (.p v)
  | .global g => match gfind glbT g with
    | some vs => .fp (gxs vs)
    | none => .top
  | .func f => .v (.p (.func (.func f) #[] #[]))

def XS.put (S : XS) : Option Nat → XV → XS
  | some d, v => { S with s := (d, v) :: S.s }
  | none, _ => S
def XS.wr (S : XS) : Option (Nat × XRow) → XS
  | some (id, r) => { S with h := (id, r) :: delR S.h id }
  | none => S

/-- What is left to be shown ahead of K. -/
def andK : List Prop → Prop → Prop
  | [], K => K
  | c :: cs, K => c ∧ andK cs K

def fnd {α : Type _} : List (Nat × α) → Nat → Option α
  | [], _ => none
  | (d, v) :: l, i => bif Nat.beq i d then some v else fnd l i

/-- Is the value there under just the test by which the operation itself is? (G: the tests of this region that are known by their keys.) -/
def sameK (G : List (Nat × Bool)) : Option Nat → Option Nat → Bool
  | some k, some k' => match Nat.beq k k', fnd G k with
    | true, some _ => true
    | _, _ => false
  | _, _ => false
/-- A value that is there only under a test. -/
def XV.st (G : List (Nat × Bool)) (k : Option Nat) : XV → List Prop × XV
  | .gd c k' x => match sameK G k k' with
    | true => ([], x)
    | false => ([c = true], x)
  | x => ([], x)

/-- The block of an address. -/
def ptrId : XV → List Nat
  | .ptr i _ _ _ => [i]
  | _ => []
def slId : XV → List Nat
  | .sl i _ _ _ => [i]
  | _ => []
/-- The cells of a value. -/
def XV.cells : XV → List XV
  | .agg cs => cs
  | x => [x]
def XV.one1 : XV → Bool
  | .v a => a.one
  | .sl .. => true
  | .ptr .. => true
  | .fz .. => true
  | .fp .. => true
  | _ => false
def xones : List XV → Bool
  | [] => true
  | x :: l => x.one1 && xones l
/-- Does it name no own block? -/
def XV.pure1 : XV → Bool
  | .v _ => true
  | .fz .. => true
  | _ => false
def xpure : List XV → Bool
  | [] => true
  | x :: l => x.pure1 && xpure l
def XV.cl : XV → XV
  | .v a => .v a
  | .fz n sz f => .fz n sz f
  | _ => .top

def xget : List XV → Nat → XV
  | [], _ => .top
  | x :: _, 0 => x
  | _ :: l, i + 1 => xget l i
def xtake : Nat → List XV → List XV
  | 0, _ => []
  | n + 1, [] => []
  | n + 1, x :: l => x :: xtake n l
def xdrop : Nat → List XV → List XV
  | 0, l => l
  | n + 1, [] => []
  | n + 1, _ :: l => xdrop n l
def xapp : List XV → List XV → List XV
  | [], l => l
  | x :: k, l => x :: xapp k l
def xlen : List XV → Nat
  | [] => 0
  | _ :: l => xlen l + 1
/-- Just the first n cells of an element. -/
def xel (f : List XV) : Nat → Nat → List XV
  | 0, _ => []
  | n + 1, k => xget f k :: xel f n (k + 1)

/-- Bools of cells. -/
def boolsX : List XV → Option (List Bool)
  | [] => some []
  | .v (.p (.bool b)) :: l => match boolsX l with
    | some r => some (b :: r)
    | none => none
  | _ => none
def intsX (k : IntKind) : List XV → Option (List Int)
  | [] => some []
  | .v (.p (.int k' b)) :: l => match kb k' k, intsX k l with
    | true, some r => some (b :: r)
    | _, _ => none
  | _ => none
def textsS : List XV → Option (List ByteArray)
  | [] => some []
  | .v (.p (.string b)) :: l => match textsS l with
    | some r => some (b :: r)
    | none => none
  | _ => none
/-- A cell by a number that is not settled. -/
def xsel (cs : List XV) (j : Nat) : Option XV :=
  match boolsX cs with
  | some l => some (.v (.p (.bool (l.getD j false))))
  | none => match cs with
    | .v (.p (.int k _)) :: _ => match intsX k cs with
      | some l => some (.v (.p (.int k (l.getD j 0))))
      | none => none
    | .v (.p (.string _)) :: _ => match textsS cs with
      | some l => some (.v (.p (.string (l.getD j ⟨#[]⟩))))
      | none => none
    | _ => none

def boolsP : List XV → List Bool
  | .v (.p (.bool b)) :: l => b :: boolsP l
  | _ => []
def intsP (k : IntKind) : List XV → List Int
  | .v (.p (.int k' b)) :: l => match kb k' k with
    | true => b :: intsP k l
    | false => []
  | _ => []
def textsP : List XV → List ByteArray
  | .v (.p (.string b)) :: l => b :: textsP l
  | _ => []
/-- Of the first cells, that are of one kind, one by its number. -/
def xselp (j : Nat) : List XV → Option (Nat × XV)
  | .v (.p (.bool b)) :: l => some ((b :: boolsP l).length, .v (.p (.bool ((b :: boolsP l).getD j false))))
  | .v (.p (.int k b)) :: l => some ((b :: intsP k l).length, .v (.p (.int k ((b :: intsP k l).getD j 0))))
  | .v (.p (.string b)) :: l => some ((b :: textsP l).length, .v (.p (.string ((b :: textsP l).getD j ⟨#[]⟩))))
  | _ => none
def setB (j : Nat) (v : Bool) : Nat → List XV → List XV
  | _, [] => []
  | k, x :: l => match x with
    | .v (.p (.bool b)) => .v (.p (.bool (bif Nat.beq j k then v else b))) :: setB j v (k + 1) l
    | x => x :: l
def setI (kd : IntKind) (j : Nat) (v : Int) : Nat → List XV → List XV
  | _, [] => []
  | k, x :: l => match x with
    | .v (.p (.int k' b)) => match kb k' kd with
      | true => .v (.p (.int kd (bif Nat.beq j k then v else b))) :: setI kd j v (k + 1) l
      | false => .v (.p (.int k' b)) :: l
    | x => x :: l
def setT (j : Nat) (v : ByteArray) : Nat → List XV → List XV
  | _, [] => []
  | k, x :: l => match x with
    | .v (.p (.string b)) => .v (.p (.string (bif Nat.beq j k then v else b))) :: setT j v (k + 1) l
    | x => x :: l
/-- The first cells, that are of one kind, one of them anew. -/
def xsetp (j : Nat) (v : List XV) (l : List XV) : Option (Nat × List XV) :=
  match v with
  | [.v (.p (.bool b))] => some ((boolsP l).length, setB j b 0 l)
  | [.v (.p (.int k b))] => some ((intsP k l).length, setI k j b 0 l)
  | [.v (.p (.string b))] => some ((textsP l).length, setT j b 0 l)
  | _ => none

/-- A function's contract: of arguments: conditions, and its value; it leaves memory as it was. -/
abbrev CT := List XV → Option (List Prop × XV)

/-- A contract of a function whose first argument is the address of a variable of one's own: of the variable's cells and the other arguments: conditions, its value, what the variable's cells are behind it (none: as they were). -/
abbrev HT := List XV → List XV → Option (List Prop × XV × Option (List XV))
/-- A contract of a function that returns the address of a new variable: of arguments: conditions, the variable's cells. -/
abbrev NT := List XV → Option (List Prop × List XV)

/-- A contract of a function that may change what is told of memory: of arguments, of what is told (slots aside), and of what is to hold behind it. -/
abbrev IT := List XV → XS → (XV → XS → Prop) → Prop

structure Cx where
  U : List (Nat × TypeDesc)
  I : List (Nat × (Value × Nat × Nat))
  C : List (Nat × CT)
  H : List (Nat × HT)
  N : List (Nat × (TypeId × NT))
  L : List (Nat × IT)
  E : List Nat := []

def okU (P : Program) : List (Nat × TypeDesc) → Prop
  | [] => True
  | (T, u) :: l => P.underlying T = some u ∧ okU P l
def okI (P : Program) : List (Nat × (Value × Nat × Nat)) → Prop
  | [] => True
  | (T, z, s, b) :: l => (P.info? T).map (fun i => (i.zero, i.size, i.bytes)) = some (some z, s, b) ∧ okI P l

/-- Types that are compared cell by cell. -/
def okE (P : Program) : List Nat → Prop
  | [] => True
  | T :: l => (P.eqGuardType P.depth T = false ∧ P.stoodInHeld T = false ∧ (P.fieldsOf T).toList.all (fun f => f.name != "_") = true) ∧ okE P l

abbrev XR := Option (List Prop × XV × Option (Nat × XRow))

/-- It lies within 64 bits. -/
def in64 (i : Int) : Prop := -9223372036854775808 ≤ i ∧ i ≤ 9223372036854775807

def ibx (op : BinOp) (k k' : IntKind) (a b : Int) : Option (List Prop × AV) :=
  match op with
  | .shl => match ishift .shl k a b with | some v => some ([], v) | none => none
  | .shr => match ishift .shr k a b with | some v => some ([], v) | none => none
  | .add => match k, k' with
    | .i64, .i64 => some ([in64 (a + b)], .p (.int .i64 (a + b)))
    | _, _ => match kb k k' with | true => some ([], .p (.int k (k.wrap (a + b)))) | false => none
  | .sub => match k, k' with
    | .i64, .i64 => some ([in64 (a - b)], .p (.int .i64 (a - b)))
    | _, _ => match kb k k' with | true => some ([], .p (.int k (k.wrap (a - b)))) | false => none
  | .mul => match k, k' with
    | .i64, .i64 => some ([in64 (a * b)], .p (.int .i64 (a * b)))
    | _, _ => match kb k k' with | true => some ([], .p (.int k (k.wrap (a * b)))) | false => none
  | .quo => match kb k k' with | true => some ([b ≠ 0], .p (.int k (k.wrap (a.tdiv b)))) | false => none
  | .rem => match kb k k' with | true => some ([b ≠ 0], .p (.int k (a.tmod b))) | false => none
  | op => match kb k k' with | true => (match ibin op k a b with | some v => some ([], v) | none => none) | false => none

def strB : Option TypeDesc → Bool
  | some .string => true
  | _ => false
def boolB : Option TypeDesc → Bool
  | some .bool => true
  | _ => false

def memN (r : Nat) : List Nat → Bool
  | [] => false
  | x :: l => Nat.beq x r || memN r l
def vX : List XV → Option (List Value)
  | [] => some []
  | .v (.p v) :: l => match vX l with
    | some r => some (v :: r)
    | none => none
  | _ => none
def vtake : Nat → List Value → List Value
  | 0, _ => []
  | _ + 1, [] => []
  | n + 1, x :: l => x :: vtake n l
def vdrop : Nat → List Value → List Value
  | 0, l => l
  | _ + 1, [] => []
  | n + 1, _ :: l => vdrop n l
def eqLeaf : TypeDesc → List Value → List Value → Option Bool
  | .bool, [.bool a], [.bool b] => some (a == b)
  | .int _, [.int k a], [.int k' b] => match kb k k' with
    | true => some (a == b)
    | false => none
  | .string, [.string a], [.string b] => some (a == b)
  | _, _, _ => none
def andO : Option Bool → Option Bool → Option Bool
  | some a, some b => some (a && b)
  | _, _ => none
def eqFs (E : TypeId → List Value → List Value → Option Bool) (I : List (Nat × (Value × Nat × Nat))) (xs ys : List Value) : List Field → Option Bool
  | [] => some true
  | f :: fs => match fnd I f.type with
    | some (_, s, _) => andO (E f.type (vtake s (vdrop f.offset xs)) (vtake s (vdrop f.offset ys))) (eqFs E I xs ys fs)
    | none => none
def eqAs (E : List Value → List Value → Option Bool) (s : Nat) : Nat → List Value → List Value → Option Bool
  | 0, _, _ => some true
  | n + 1, xs, ys => andO (E (vtake s xs) (vtake s ys)) (eqAs E s n (vdrop s xs) (vdrop s ys))
/-- Are two structs, two arrays the same, cell by cell? -/
def eqV (X : Cx) : Nat → TypeId → List Value → List Value → Option Bool
  | 0, _, _, _ => none
  | dd + 1, T, xs, ys => match fnd X.U T with
    | some (.struct fs) => match memN T X.E with
      | true => eqFs (eqV X dd) X.I xs ys fs.toList
      | false => none
    | some (.array n e) => match fnd X.I e with
      | some (_, s, _) => eqAs (eqV X dd e) s n xs ys
      | none => none
    | some u => eqLeaf u xs ys
    | none => none

def aggB : Option TypeDesc → Option Bool
  | some u => some (aggT u)
  | none => none
def xbin (X : Cx) (op : BinOp) (T : TypeId) (x y : XV) : Option (List Prop × XV) :=
  match x, y with
  | .v (.p (.int k a)), .v (.p (.int k' b)) => match ibx op k k' a b with | some (cs, v) => some (cs, .v v) | none => none
  | .v (.p (.string a)), .v (.p (.string b)) => match op with
    | .add => some ([a.size + b.size ≤ 9223372036854775807], .v (.p (.string (a ++ b))))
    | op => match sbin op a b with | some v => some ([], .v v) | none => none
  | .v (.p (.bool a)), .v (.p (.bool b)) => match boolB (fnd X.U T), op with
    | true, .eql => some ([], .v (.p (.bool (a == b))))
    | true, .neq => some ([], .v (.p (.bool (!(a == b)))))
    | _, _ => none
  | .agg cs, .agg ds => match aggB (fnd X.U T), memN T X.E, vX cs, vX ds with
    | some true, true, some xs, some ys => match eqV X 8 T xs ys, op with
      | some b, .eql => some ([], .v (.p (.bool b)))
      | some b, .neq => some ([], .v (.p (.bool (!b))))
      | _, _ => none
    | _, _, _, _ => none
  | _, _ => none


def notSh : BinOp → Bool
  | .shl => false
  | .shr => false
  | _ => true
/-- A shift by a number that is not settled. -/
def xsh (op : BinOp) : XV → XV → Option (Prop × XV)
  | .v (.p (.int k a)), .v (.p (.int _ b)) => match op with
    | .shl => some (0 ≤ b, .v (.p (.int k (k.wrap (a * 2 ^ (min b.toNat k.bits))))))
    | .shr => some (0 ≤ b, .v (.p (.int k (a.fdiv (2 ^ (min b.toNat k.bits))))))
    | _ => none
  | _, _ => none
/-- Interface values, one of them nil. -/
def xbinI (X : Cx) (op : BinOp) (T : TypeId) (c : Bool) (x y : XV) : Option XV :=
  match fnd X.U T, x, y with
  | some (.interface _), .v a, .v b => match niB c a b, op with
    | some r, .eql => some (.v (.p (.bool r)))
    | some r, .neq => some (.v (.p (.bool (!r))))
    | _, _ => none
  | _, _, _ => none
/-- A list, laid bare ahead of what is made of it. -/
def xforce {β : Type} : List XV → (List XV → β) → β
  | [], k => k []
  | x :: l, k => xforce l fun r => k (x :: r)
theorem xforce_eq {β : Type} : ∀ (l : List XV) (k : List XV → β), xforce l k = k l
  | [], k => rfl
  | x :: l, k => by rw [xforce, xforce_eq l]

/-- A read of m cells (m = 1: of one). -/
def xload (h : List (Nat × XRow)) (agg : Bool) (m : Nat) : XV → Option (List Prop × XV)
  | .ptr id sz i o => match findR h id with
    | some (.one e ap cs) => match sz, i with
      | 0, 0 => match agg with
        | true => match Nat.ble (o + m) (xlen cs) with | true => xforce (xtake m (xdrop o cs)) fun l => some ([], .agg l) | false => none
        | false => match Nat.blt o (xlen cs) with | true => some ([], xget cs o) | false => none
      | 1, j => match agg, xselp j (xdrop o cs) with
        | false, some (n, v) => some ([j < n], v)
        | _, _ => none
      | _, _ => none
    | some (.vec e ap n s f) => match Nat.beq s sz with
      | true => match agg with
        | true => match Nat.ble (o + m) s with | true => some ([i < n], .agg ((xel (f i) m o).map XV.cl)) | false => none
        | false => match Nat.blt o s with | true => some ([i < n], (xget (f i) o).cl) | false => none
      | false => none
    | some (.vecU e ap n s i' cs f) => match Nat.beq s sz with
      | true => match agg with
        | true => match Nat.ble (o + m) s with | true => some ([i = i', i < n], .agg ((xel cs m o).map XV.cl)) | false => none
        | false => match Nat.blt o s with | true => some ([i = i', i < n], (xget cs o).cl) | false => none
      | false => none
    | none => none
  | .fp cs => match agg with
    | true => match Nat.ble m (xlen cs) with | true => some ([], .agg ((xtake m cs).map XV.cl)) | false => none
    | false => match cs with | x :: _ => some ([], x.cl) | [] => none
  | .fsel cs j => match agg with
    | false => match xsel cs j with | some v => some ([j < cs.length], v) | none => none
    | true => none
  | _ => none

def xsplice (l cs : List XV) (o : Nat) : List XV := xapp (xtake o l) (xapp cs (xdrop (o + xlen cs) l))

def xstore (h : List (Nat × XRow)) (cs : List XV) : XV → Option (List Prop × (Nat × XRow))
  | .ptr id sz i o => match findR h id with
    | some (.one e ap l) => match sz, i, Nat.ble (o + xlen cs) (xlen l) with
      | 0, 0, true => xforce (xsplice l cs o) fun l' => some ([], (id, .one e ap l'))
      | 1, j, true => match xsetp j cs (xdrop o l) with
        | some (n, l') => xforce (xapp (xtake o l) l') fun l' => some ([j < n], (id, .one e ap l'))
        | none => none
      | _, _, _ => none
    | some (.vec e ap n s f) => match Nat.beq s sz, Nat.ble (o + xlen cs) s, xpure cs with
      | true, true, true => xforce (xsplice (xel (f i) s 0) cs o) fun l => some ([i < n], (id, .vecU e ap n s i l f))
      | _, _, _ => none
    | some (.vecU e ap n s i' l f) => match Nat.beq s sz, Nat.ble (o + xlen cs) s, xpure cs with
      | true, true, true => xforce (xsplice (xel l s 0) cs o) fun l => some ([i = i', i < n], (id, .vecU e ap n s i' l f))
      | _, _, _ => none
    | none => none
  | _ => none

def xindex (X : Cx) (T : TypeId) (x : XV) (j : Int) : Option (List Prop × XV) :=
  match x with
  | .sl id sz off n => match fnd X.U T with
    | some (.slice e) => match fnd X.I e with
      | some (_, s, _) => match Nat.beq s sz, s with | true, _ + 1 => some ([0 ≤ j, j < n], .ptr id sz (off + j.toNat) 0) | _, _ => none
      | none => none
    | _ => none
  | .fz n sz f => match fnd X.U T with
    | some (.slice e) => match fnd X.I e with
      | some (_, s, _) => match Nat.beq s sz, s with | true, _ + 1 => some ([0 ≤ j, j < n], .fp (xel (f j.toNat) sz 0)) | _, _ => none
      | none => none
    | _ => none
  | .ptr id sz i o => match fnd X.U T with
    | some (.array n e) => match fnd X.I e with
      | some (_, s, _) => match sz with
        | 0 => match s with
          | 1 => match i with
            | 0 => some ([0 ≤ j, j < n], .ptr id 1 j.toNat o)
            | _ => none
          | _ => some ([0 ≤ j, j < n], .ptr id 0 i (o + j.toNat * s))
        | _ => match Nat.beq s sz, o with | true, 0 => some ([0 ≤ j, j < n], .ptr id sz (i + j.toNat) 0) | _, _ => some ([0 ≤ j, j < n], .ptr id sz i (o + j.toNat * s))
      | none => none
    | _ => none
  | .fp cs => match fnd X.U T with
    | some (.array n e) => match fnd X.I e with
      | some (_, 1, _) => match Nat.ble n (xlen cs) with | true => some ([0 ≤ j, j < n], .fsel (xtake n cs) j.toNat) | false => none
      | _ => none
    | _ => none
  | _ => none

def xfield (X : Cx) (T : TypeId) (i : Nat) (x : XV) : Option XV :=
  match fnd X.U T with
  | some (.struct fs) => match nth fs.toList i with
    | some f => match fnd X.I f.type with
      | some (_, _ + 1, _) => match x with
        | .ptr id sz k o => some (.ptr id sz k (o + f.offset))
        | .fp cs => some (.fp (xdrop f.offset cs))
        | _ => none
      | _ => none
    | none => none
  | _ => none

def xfieldV (X : Cx) (T : TypeId) (i : Nat) (x : XV) : Option XV :=
  match fnd X.U T with
  | some (.struct fs) => match nth fs.toList i with
    | some f => match aggB (fnd X.U f.type), x with
      | some false, .agg cs => match Nat.blt f.offset (xlen cs) with | true => some (xget cs f.offset) | false => none
      | some true, .agg cs => match fnd X.I f.type with
        | some (_, s, _) => some (.agg (xtake s (xdrop f.offset cs)))
        | none => none
      | _, _ => none
    | none => none
  | _ => none

/-- A struct's parts. -/
def xparts (X : Cx) : List Field → Option (List (Nat × Nat))
  | [] => some []
  | f :: fs => match fnd X.I f.type, xparts X fs with
    | some (_, s, _), some l => some ((f.offset, s) :: l)
    | _, _ => none
def xlaid (pl : List (Nat × Nat)) : List XV → List (Nat × List XV) → Option (List XV)
  | zs, [] => some zs
  | zs, (i, cs) :: rest => match nth pl i with
    | none => none
    | some (off, sz) => match Nat.beq (xlen cs) sz, Nat.ble (off + xlen cs) (xlen zs), xones cs with
      | true, true, true => xlaid pl (xsplice zs cs off) rest
      | _, _, _ => none

def zcells (z : Value) : List XV := z.cells.toList.map fun v => .v (.p v)

def xpartsV (e : Operand → List Prop × XV) : List (Nat × Operand) → List Prop × List (Nat × List XV)
  | [] => ([], [])
  | (i, x) :: l => let p := e x; let r := xpartsV e l; (p.1 ++ r.1, (i, p.2.cells) :: r.2)

def seqB : List (Nat × Operand) → Nat → Bool
  | [], _ => true
  | (i, _) :: l, k => Nat.beq i k && seqB l (k + 1)
def eachLen (sz : Nat) : List (Nat × List XV) → Bool
  | [] => true
  | (_, cs) :: l => Nat.beq (xlen cs) sz && (xones cs && (xpure cs && eachLen sz l))
def nthCells : List (Nat × List XV) → Nat → List XV
  | [], _ => []
  | (_, cs) :: _, 0 => cs
  | _ :: l, i + 1 => nthCells l i

def textsX : List XV → Option (List ByteArray)
  | [] => some []
  | .v (.p (.string b)) :: l => match textsX l with
    | some r => some (b :: r)
    | none => none
  | _ => none
def nilsX : List XV → Bool
  | [] => true
  | .v (.p (.slice none 0 0)) :: l => nilsX l
  | _ => false
/-- A column of cells of one kind, by the row's number. -/
def colX (cs : List XV) : Option (Nat → XV) :=
  match boolsX cs with
  | some l => some fun j => .v (.p (.bool (l.getD j false)))
  | none => match cs with
    | .v (.p (.int k _)) :: _ => match intsX k cs with
      | some l => some fun j => .v (.p (.int k (l.getD j 0)))
      | none => none
    | .v (.p (.string _)) :: _ => match textsX cs with
      | some l => some fun j => .v (.p (.string (l.getD j ⟨#[]⟩)))
      | none => none
    | _ => match nilsX cs with
      | true => some fun _ => .v (.p (.slice none 0 0))
      | false => none
def colAt (o : Nat) : List (Nat × List XV) → List XV
  | [] => []
  | (_, cs) :: l => xget cs o :: colAt o l
def colsX (l : List (Nat × List XV)) : Nat → Nat → Option (List (Nat → XV))
  | 0, _ => some []
  | n + 1, o => match colX (colAt o l), colsX l n (o + 1) with
    | some g, some gs => some (g :: gs)
    | _, _ => none
def apX (j : Nat) : List (Nat → XV) → List XV
  | [] => []
  | g :: gs => g j :: apX j gs
/-- A literal slice's elements. -/
def bsF (sz : Nat) (l : List (Nat × List XV)) : Nat → List XV :=
  match l with
  | [(_, cs)] => fun _ => cs
  | l => match colsX l sz 0 with
    | some gs => fun j => apX j gs
    | none => fun j => nthCells l j

def optI (e : Operand → List Prop × XV) (dflt : Int) : Option Operand → Option (List Prop × Int)
  | none => some ([], dflt)
  | some x => match e x with
    | (p, .v (.p (.int _ i))) => some (p, i)
    | _ => none

def xslice (X : Cx) (T : TypeId) (e : Operand → List Prop × XV) (lo hi : Option Operand) (x : XV) : Option (List Prop × XV) :=
  match x with
  | .v (.p (.string b)) => match strB (fnd X.U T), optI e 0 lo, optI e b.size hi with
    | true, some (p, l), some (q, h) => some (p ++ (q ++ [0 ≤ l, l ≤ h, h ≤ b.size]), .v (.p (.string (b.extract l.toNat h.toNat))))
    | _, _, _ => none
  | .fz n sz f => match fnd X.U T, optI e 0 lo, optI e n hi with
    | some (.slice e), some (p, l), some (q, h) => match fnd X.I e with
      | some (_, s, _) => match Nat.beq s sz with
        | true => some (p ++ (q ++ [0 ≤ l, l ≤ h, h ≤ n]), .fz (h - l).toNat sz fun j => f (l.toNat + j))
        | false => none
      | none => none
    | _, _, _ => none
  | _ => none

def xmin : List XV → Option XV
  | [.v (.p (.int k a)), .v (.p (.int _ b))] => some (.v (.p (.int k (imin a b))))
  | [.v (.p (.int k a)), .v (.p (.int _ b)), .v (.p (.int _ c))] => some (.v (.p (.int k (imin (imin a b) c))))
  | _ => none
def xmax : List XV → Option XV
  | [.v (.p (.int k a)), .v (.p (.int _ b))] => some (.v (.p (.int k (imax a b))))
  | _ => none
def xargs (e : Operand → List Prop × XV) : List Operand → List Prop × List XV
  | [] => ([], [])
  | x :: l => let p := e x; let r := xargs e l; (p.1 ++ r.1, p.2 :: r.2)

def xlenV (X : Cx) (T : TypeId) : XV → Option XV
  | .v (.p (.string b)) => match strB (fnd X.U T) with | true => some (.v (.p (.int .i64 b.size))) | false => none
  | .v (.p (.slice none n _)) => match fnd X.U T with | some (.slice _) => some (.v (.p (.int .i64 n))) | _ => none
  | .fz n _ _ => match fnd X.U T with | some (.slice _) => some (.v (.p (.int .i64 n))) | _ => none
  | .sl _ _ _ n => match fnd X.U T with | some (.slice _) => some (.v (.p (.int .i64 n))) | _ => none
  | _ => none

def xconv (X : Cx) (S T : TypeId) (x : XV) : Option (List Prop × XV) :=
  match fnd X.U S, fnd X.U T, x with
  | some (.int _), some (.int k), .v (.p (.int _ i)) => match k with
    | .i64 => some ([in64 i], .v (.p (.int .i64 i)))
    | k => some ([], .v (.p (.int k (k.wrap i))))
  | some .string, some .string, .v (.p (.string b)) => some ([], .v (.p (.string b)))
  | _, _, _ => none

/-- A byte, told. -/
def byte1 : XV → UInt8
  | .v (.p (.int .u8 i)) => UInt8.ofNat i.toNat
  | _ => 0
def X8b (b : UInt8) : XV := .v (.p (.int .u8 b.toNat))
def bytesL : List XV → List UInt8
  | [] => []
  | x :: l => byte1 x :: bytesL l
def x8L : List UInt8 → List XV
  | [] => []
  | b :: l => X8b b :: x8L l
/-- A slice's bytes, as a text. -/
def xstr (h : List (Nat × XRow)) : XV → Option (List Prop × ByteArray)
  | .fz n sz f => match sz with
    | 1 => some ([∀ j, j < n → f j = [X8b (byte1 (xget (f j) 0))]], txtOf n fun j => byte1 (xget (f j) 0))
    | _ => none
  | .sl id sz o n => match sz, findR h id with
    | 1, some (.vec _ _ n' 1 f) => some ([o + n ≤ n', ∀ j, j < n → f (o + j) = [X8b (byte1 (xget (f (o + j)) 0))]], txtOf n fun j => byte1 (xget (f (o + j)) 0))
    | 1, some (.one _ _ cs) => some ([o + n ≤ xlen cs, xtake n (xdrop o cs) = x8L (bytesL (xtake n (xdrop o cs)))], ofBytes (bytesL (xtake n (xdrop o cs))))
    | _, _ => none
  | _ => none
def xconvS (X : Cx) (h : List (Nat × XRow)) (S T : TypeId) (x : XV) : Option (List Prop × ByteArray) :=
  match fnd X.U S, fnd X.U T with
  | some (.slice e), some .string => match fnd X.U e with
    | some (.int .u8) => xstr h x
    | _ => none
  | _, _ => none

def ltParts (n : Nat) : List (Nat × Operand) → Bool
  | [] => true
  | (i, _) :: l => Nat.blt i n && ltParts n l
def rangeP (s : Nat) : Nat → Nat → List (Nat × Nat)
  | _, 0 => []
  | k, n + 1 => (k * s, s) :: rangeP s (k + 1) n
def rowsL (s : Nat) : Nat → List XV → List (Nat × List XV)
  | 0, _ => []
  | n + 1, cs => (n, xtake s cs) :: rowsL s n (xdrop s cs)
/-- An array, as a slice. -/
def xsliceA (X : Cx) (h : List (Nat × XRow)) (T : TypeId) (e : Operand → List Prop × XV) (lo hi : Option Operand) (x : XV) : Option (List Prop × XV) :=
  match fnd X.U T with
  | some (.array n el) => match fnd X.I el, x with
    | some (_, s, _), .fp cs => match lo, hi, Nat.ble (n * s) (xlen cs), eachLen s (rowsL s n cs) with
      | none, none, true, true => some ([], .fz n s (bsF s (rowsL s n cs)))
      | _, _, _, _ => none
    | some (_, 1, _), .ptr id 0 0 o => match findR h id, optI e 0 lo, optI e n hi with
      | some (.one _ _ cs), some (p, l), some (q, hh) => match Nat.ble (o + n) (xlen cs) with
        | true => some (p ++ (q ++ [0 ≤ l, l ≤ hh, hh ≤ n]), .sl id 1 (o + l.toNat) (hh - l).toNat)
        | false => none
      | _, _, _ => none
    | _, _ => none
  | _ => none

/-- An operation that makes no block. -/
def xop (X : Cx) (h : List (Nat × XRow)) (e eT eF : Operand → List Prop × XV) : Op → XR
  | .move x => let p := e x; some (p.1, p.2, none)
  | .assign x => let p := e x; some (p.1, p.2, none)
  | .pick c a b =>
    let p := e c
    let q := eT a
    let r := eF b
    match p.2, q.2, r.2 with
    | .v (.p (.bool t)), .v (.p (.bool y)), .v (.p (.bool z)) =>
      match a, b with
      | .const (.bool true), _ => some (p.1 ++ r.1.map (t = false → ·), .v (.p (.bool (t || z))), none)
      | _, .const (.bool false) => some (p.1 ++ q.1.map (t = true → ·), .v (.p (.bool (t && y))), none)
      | _, _ => some (p.1 ++ (q.1.map (t = true → ·) ++ r.1.map (t = false → ·)), .v (.p (.bool (bif t then y else z))), none)
    | _, _, _ => none
  | .binOp op T x y _ =>
    let p := e x
    let q := e y
    match isC y || notSh op with
    | true => match xbin X op T p.2 q.2 with
      | some (cs, v) => some (p.1 ++ (q.1 ++ cs), v, none)
      | none => match xbinI X op T (isC x || isC y) p.2 q.2 with
        | some v => some (p.1 ++ q.1, v, none)
        | none => none
    | false => match xsh op p.2 q.2 with
      | some (c, v) => some (p.1 ++ (q.1 ++ [c]), v, none)
      | none => none
  | .makeInterface T x =>
    let p := e x
    match fnd X.U T with
    | some u => match notIf u, p.2 with
      | true, .v (.p v) => some (p.1, .v (.p (.iface T v)), none)
      | true, _ => some (p.1, .v (.iface T .top), none)
      | _, _ => none
    | none => none
  | .unOp op _ x =>
    let p := e x
    match op, p.2 with
    | .not, .v (.p (.bool b)) => some (p.1, .v (.p (.bool (!b))), none)
    | .neg, .v (.p (.int k a)) => some (p.1, .v (.p (.int k (k.wrap (-a)))), none)
    | _, _ => none
  | .extract x i =>
    let p := e x
    match p.2 with
    | .tup cs => match Nat.blt i (xlen cs) with | true => some (p.1, xget cs i, none) | false => none
    | _ => none
  | .field T x i =>
    let p := e x
    match xfieldV X T i p.2 with
    | some v => some (p.1, v, none)
    | none => none
  | .nilCheck x =>
    let p := e x
    match p.2 with
    | .ptr id sz i o => some (p.1, .ptr id sz i o, none)
    | .fp cs => some (p.1, .fp cs, none)
    | _ => none
  | .fieldAddr T x i =>
    let p := e x
    match xfield X T i p.2 with
    | some v => some (p.1, v, none)
    | none => none
  | .indexAddr T x i =>
    let p := e x
    let q := e i
    match q.2 with
    | .v (.p (.int _ j)) => match xindex X T p.2 j with
      | some (cs, v) => some (p.1 ++ (q.1 ++ cs), v, none)
      | none => none
    | _ => none
  | .index T x i =>
    let p := e x
    let q := e i
    match p.2, q.2, strB (fnd X.U T) with
    | .v (.p (.string b)), .v (.p (.int _ j)), true => some (p.1 ++ (q.1 ++ [0 ≤ j, j < b.size]), .v (.p (.int .u8 (sbyte b j))), none)
    | .agg cs, .v (.p (.int _ j)), false => match fnd X.U T with
      | some (.array n el) => match aggB (fnd X.U el), fnd X.I el, xsel (xtake n cs) j.toNat with
        | some false, some (_, 1, _), some v => some (p.1 ++ (q.1 ++ [0 ≤ j, j < n, j.toNat < (xtake n cs).length]), v, none)
        | _, _, _ => none
      | _ => none
    | _, _, _ => none
  | .load T x =>
    let p := e x
    match aggB (fnd X.U T), fnd X.I T with
    | some a, some (_, m, _) => match xload h a m p.2 with
      | some (cs, v) => some (p.1 ++ cs, v, none)
      | none => none
    | _, _ => none
  | .store T x y =>
    let p := e x
    let q := e y
    match fnd X.I T with
    | some (_, m, _) => match Nat.beq m (xlen q.2.cells), xones q.2.cells with
      | true, true => match xstore h q.2.cells p.2 with
        | some (cs, w) => some (p.1 ++ (q.1 ++ cs), .top, some w)
        | none => none
      | _, _ => none
    | none => none
  | .build T parts =>
    match fnd X.U T, fnd X.I T with
    | some (.struct fs), some (z, _, _) => match xparts X fs.toList with
      | some pl =>
        let r := xpartsV e parts.toList
        match xlaid pl (zcells z) r.2 with
        | some out => some (r.1, .agg out, none)
        | none => none
      | none => none
    | some (.array n el), some (z, _, _) => match fnd X.I el with
      | some (_, s, _) =>
        let r := xpartsV e parts.toList
        match ltParts n parts.toList, xlaid (rangeP s 0 n) (zcells z) r.2 with
        | true, some out => some (r.1, .agg out, none)
        | _, _ => none
      | none => none
    | _, _ => none
  | .buildSlice T n parts =>
    match fnd X.U T with
    | some (.slice el) => match fnd X.I el with
      | some (_, sz, _) =>
        let r := xpartsV e parts.toList
        match seqB parts.toList 0, Nat.beq n parts.toList.length, eachLen sz r.2, Nat.ble (n * sz) 16777216 with
        | true, true, true, true => some (r.1, .fz n sz (bsF sz r.2), none)
        | _, _, _, _ => none
      | none => none
    | _ => none
  | .slice T x lo hi none =>
    let p := e x
    match xslice X T e lo hi p.2 with
    | some (cs, v) => some (p.1 ++ cs, v, none)
    | none => match xsliceA X h T e lo hi p.2 with
      | some (cs, v) => some (p.1 ++ cs, v, none)
      | none => none
  | .slice T x none (some hi) (some mx) =>
    let p := e x
    let q := e hi
    let r := e mx
    match p.2, q.2, r.2, fnd X.U T with
    | .fz n sz f, .v (.p (.int _ a)), .v (.p (.int _ b)), some (.slice el) => match fnd X.I el with
      | some _ => some (p.1 ++ (q.1 ++ (r.1 ++ [a = n, b = n])), .fzc n sz f, none)
      | none => none
    | _, _, _, _ => none
  | .sliceToArrayPointer T x =>
    let p := e x
    match fnd X.U T, p.2 with
    | some (.array (n + 1) _), .sl id 1 off m => some (p.1 ++ [n + 1 ≤ m], .ptr id 0 0 off, none)
    | _, _ => none
  | .convert S T x =>
    let p := e x
    match xconv X S T p.2 with
    | some (cs, v) => some (p.1 ++ cs, v, none)
    | none => match xconvS X h S T p.2 with
      | some (cs, b) => some (p.1 ++ cs, .v (.p (.string b)), none)
      | none => none
  | .call c =>
    match c.callee with
    | .builtin .len => match c.args.toList, c.argTypes.toList with
      | [x], [T] =>
        let p := e x
        match xlenV X T p.2 with
        | some v => some (p.1, v, none)
        | none => none
      | _, _ => none
    | .builtin .min =>
      let r := xargs e c.args.toList
      match xmin r.2 with
      | some v => some (r.1, v, none)
      | none => none
    | .builtin .max =>
      let r := xargs e c.args.toList
      match xmax r.2 with
      | some v => some (r.1, v, none)
      | none => none
    | .value (.func f) =>
      let r := xargs e c.args.toList
      match fnd X.C f with
      | some C => match C r.2 with
        | some (cs, v) => some (r.1 ++ cs, v, none)
        | none => none
      | none => match fnd X.H f, r.2 with
        | some H, .ptr id 0 0 0 :: rest => match findR h id with
          | some (.one e ap cells) => match H cells rest with
            | some (cs, v, none) => some (r.1 ++ cs, v, none)
            | some (cs, v, some cells') => some (r.1 ++ cs, v, some (id, .one e ap cells'))
            | none => none
          | _ => none
        | _, _ => none
    | _ => none
  | _ => none

/-! Operations that make blocks -/

/-- Slots that tell of a block are forgotten. -/
def XV.has (id : Nat) : XV → Bool
  | .sl i _ _ _ => Nat.beq i id
  | .ptr i _ _ _ => Nat.beq i id
  | .agg cs => hasL id cs
  | .tup cs => hasL id cs
  | .gd _ _ x => x.has id
  | _ => false
where hasL (id : Nat) : List XV → Bool
  | [] => false
  | x :: l => x.has id || hasL id l
def dropS (id : Nat) : List (Nat × XV) → List (Nat × XV)
  | [] => []
  | (d, v) :: l => bif v.has id then (d, .top) :: dropS id l else (d, v) :: dropS id l
def dropC (id : Nat) : List XV → List XV
  | [] => []
  | x :: l => (bif x.has id then .top else x) :: dropC id l
def dropH (id : Nat) : List (Nat × XRow) → List (Nat × XRow)
  | [] => []
  | (d, .one e ap cs) :: l => (d, .one e ap (dropC id cs)) :: dropH id l
  | (d, .vec e ap n sz f) :: l => (d, .vec e ap n sz f) :: dropH id l
  | (d, .vecU e ap n sz i cs f) :: l => (d, .vecU e ap n sz i cs f) :: dropH id l

/-- Where an append takes its elements from. -/
def xsrc (h : List (Nat × XRow)) (sz : Nat) : XV → Option (Nat × (Nat → List XV))
  | .fz n s f => match Nat.beq s sz with | true => some (n, f) | false => none
  | .v (.p (.slice none n _)) => match n with | 0 => some (0, fun _ => []) | _ => none
  | _ => none

/-- The same value, of a plain kind, by sight. -/
def eqZ1 : Value → Value → Bool
  | .int k a, .int k' b => kb k k' && (match a, b with | .ofNat i, .ofNat j => Nat.beq i j | _, _ => false)
  | .bool a, .bool b => a == b
  | .slice none 0 0, .slice none 0 0 => true
  | .pointer none, .pointer none => true
  | _, _ => false
def eqZ : List Value → List Value → Bool
  | [], [] => true
  | a :: l, b :: k => eqZ1 a b && eqZ l k
  | _, _ => false
def repV : Nat → List Value → List Value
  | 0, _ => []
  | n + 1, l => l ++ repV n l

/-- One of two values, part by part where both are plain ones of a kind. -/
def xbif (c : Bool) (x y : XV) : XV := match x, y with
  | .v (.p (.string a)), .v (.p (.string b)) => .v (.p (.string (bif c then a else b)))
  | .v (.p (.bool a)), .v (.p (.bool b)) => .v (.p (.bool (bif c then a else b)))
  | x, y => bif c then x else y
theorem xbif_eq (c : Bool) (x y : XV) : xbif c x y = bif c then x else y := by
  unfold xbif
  split <;> cases c <;> rfl
def zipBif (c : Bool) : List XV → List XV → List XV
  | x :: l, y :: k => xbif c x y :: zipBif c l k
  | [], [] => []
  | l, k => bif c then l else k
theorem zipBif_eq (c : Bool) : ∀ l k : List XV, zipBif c l k = bif c then l else k
  | x :: l, y :: k => by
    rw [zipBif, xbif_eq, zipBif_eq c l k]
    cases c <;> rfl
  | [], [] => by cases c <;> rfl
  | [], y :: k => rfl
  | x :: l, [] => rfl
def xnew0 (X : Cx) (S : XS) : Op → Option (List Prop × XV × XS)
  | .call ⟨.value (.func f), args, _⟩ =>
    let r := xargs (fun x => (xev S.s x).st [] none) args.toList
    match fnd X.N f with
    | some (T, M) => match M r.2 with
      | some (cs, cells) => match xones cells with
        | true => some (r.1 ++ cs, .ptr S.nx 0 0 0, { S with h := (S.nx, .one T true cells) :: S.h, nx := S.nx + 1 })
        | false => none
      | none => none
    | none => none
  | .alloc T => match fnd X.U T, fnd X.I T with
    | some _, some (z, _, _) => match xones (zcells z) with
      | true => some ([], .ptr S.nx 0 0 0, { S with h := (S.nx, .one T true (zcells z)) :: S.h, nx := S.nx + 1 })
      | false => none
    | _, _ => none
  | .box T x =>
    let p := (xev S.s x).st [] none
    match xones p.2.cells with
    | true => some (p.1, .ptr S.nx 0 0 0, { S with h := (S.nx, .one T true p.2.cells) :: S.h, nx := S.nx + 1 })
    | false => none
  | .call c => match c.callee, c.args.toList, c.argTypes.toList with
    | .builtin .append, [x, y], [T, T'] =>
      let p := (xev S.s x).st [] none
      let q := (xev S.s y).st [] none
      match Nat.beq T T', fnd X.U T with
      | true, some (.slice e) => match fnd X.I e with
        | some (z, sz, b) => match xsrc S.h sz q.2, Nat.beq z.cells.toList.length sz, sz with
          | some (m, g), true, _ + 1 => match p.2 with
            | .v (.p (.slice none 0 0)) => some (p.1 ++ (q.1 ++ [m * b ≤ 140737488355328, m ≤ 140737488355328]), .sl S.nx sz 0 m, { S with h := (S.nx, .vec e true m sz g) :: S.h, nx := S.nx + 1 })
            | .sl id s 0 n => match findR S.h id with
              | some (.vec e' true n' s' f) => match Nat.beq e e', Nat.beq s sz, Nat.beq s' sz with
                | true, true, true => some (p.1 ++ (q.1 ++ [n' = n, (n + m) * b ≤ 140737488355328, n + m ≤ 140737488355328]), .sl id sz 0 (n + m),
                    { S with s := dropS id S.s, h := (id, .vec e true (n + m) sz fun j => zipBif (Nat.blt j n) (f j) (g (j - n))) :: dropH id (delR S.h id), gs := dropC id S.gs })
                | _, _, _ => none
              | _ => none
            | .fzc n s f => match Nat.beq s sz with
              | true => some (p.1 ++ (q.1 ++ [(n + m) * b ≤ 140737488355328, n + m ≤ 140737488355328]), .fz (n + m) sz (fun j => zipBif (Nat.blt j n) (f j) (g (j - n))), S)
              | false => none
            | _ => none
          | _, _, _ => none
        | none => none
      | _, _ => none
    | _, _, _ => none
  | .makeSlice T x y =>
    let p := (xev S.s x).st [] none
    let q := (xev S.s y).st [] none
    match p.2, q.2, fnd X.U T with
    | .v (.p (.int _ l)), .v (.p (.int _ c)), some (.slice e) => match fnd X.I e with
      | some (z, sz, b) => match Nat.beq z.cells.toList.length sz, xones (zcells z), sz with
        | true, true, _ + 1 => some (p.1 ++ (q.1 ++ [0 ≤ l, l ≤ c, c.toNat * b ≤ 140737488355328, c ≤ 140737488355328]), .sl S.nx sz 0 l.toNat, { S with h := (S.nx, .vec e true l.toNat sz fun _ => zcells z) :: S.h, nx := S.nx + 1 })
        | _, _, _ => none
      | none => none
    | _, _, _ => none
  | .convert Sx T x =>
    let p := (xev S.s x).st [] none
    match fnd X.U Sx, fnd X.U T, p.2 with
    | some .string, some (.slice e), .v (.p (.string b)) => match fnd X.U e with
      | some (.int .u8) => some (p.1, .sl S.nx 1 0 b.size, { S with h := (S.nx, .vec e false b.size 1 fun j => [.v (.p (.int .u8 (sbyte b j)))]) :: S.h, nx := S.nx + 1 })
      | _ => none
    | _, _, _ => none
  | _ => none

def xnew (X : Cx) (S : XS) (op : Op) : Option (List Prop × XV × XS) := xnew0 X S.pl op

/-! Guards, regions -/

def xdok (N : Nat) : Option Nat → Bool
  | some d => Nat.blt d N
  | none => true
def guardOf (ops : List Oper) (s : List (Nat × XV)) (j : Nat) (b : Bool) : Option Bool :=
  match nth ops j with
  | some ⟨some d, _, _, _, _, _⟩ => match look s d with
    | .v (.p (.bool c)) => some (bif b then c else !c)
    | .gd c0 _ (.v (.p (.bool c))) => some (c0 && bif b then c else !c)
    | _ => none
  | _ => none
def gkey (j : Nat) (b : Bool) : Nat := bif b then 2 * j + 1 else 2 * j
/-- No slot tells of a value under this key. -/
def noKey (k : Nat) : List (Nat × XV) → Bool
  | [] => true
  | (_, .gd _ (some k') _) :: l => !(Nat.beq k k') && noKey k l
  | _ :: l => noKey k l
/-- The tests known by their keys, behind a value put into a slot. -/
def dropG (ops : List Oper) (d : Nat) : List (Nat × Bool) → List (Nat × Bool)
  | [] => []
  | (k, g) :: l => match nth ops (k / 2) with
    | some ⟨some d', _, _, _, _, _⟩ => bif Nat.beq d d' then dropG ops d l else (k, g) :: dropG ops d l
    | _ => dropG ops d l
def dropGo (ops : List Oper) : Option Nat → List (Nat × Bool) → List (Nat × Bool)
  | some d, G => dropG ops d G
  | none, G => G
/-- Which operation's slot is it? -/
def whose (s : Nat) : List Oper → Nat → Option Nat
  | [], _ => none
  | ⟨some d, _, _, _, _, _⟩ :: l, j => bif Nat.beq d s then some j else whose s l (j + 1)
  | _ :: l, j => whose s l (j + 1)
def pickKey (ops : List Oper) (b : Bool) : Op → Option Nat
  | .pick (.tmp s) _ _ => match whose s ops 0 with
    | some j => some (gkey j b)
    | none => none
  | _ => none
/-- An operation's test, its key, and the tests that are known. -/
def xguard (ops : List Oper) (S : XS) (G : List (Nat × Bool)) (j : Nat) (b : Bool) : Option (Bool × Option Nat × List (Nat × Bool)) :=
  match fnd G (gkey j b) with
  | some g => some (g, some (gkey j b), G)
  | none => match guardOf ops S.s j b with
    | some g => match noKey (gkey j b) S.s with
      | true => some (g, some (gkey j b), (gkey j b, g) :: G)
      | false => some (g, none, G)
    | none => none

def xstep (X : Cx) (ops : List Oper) (S : XS) (G : List (Nat × Bool)) (k : Option Nat) (op : Op) : XR :=
  xop X S.h (fun x => (xev S.s x).st G k) (fun x => (xev S.s x).st G (pickKey ops true op)) (fun x => (xev S.s x).st G (pickKey ops false op)) op

def notGd : XV → Bool
  | .gd .. => false
  | _ => true
def wdst (v : XV) : Op → Option Nat → Bool
  | .store .., some _ => false
  | _, _ => notGd v

/-- The slots, as what a caller keeps. -/
def gsIn (s : List (Nat × XV)) : List (Nat × XV) → List XV
  | [] => []
  | (d, _) :: l => look s d :: gsIn s l
def gsOut : List (Nat × XV) → List XV → List (Nat × XV)
  | (d, _) :: l, v :: vs => (d, v) :: gsOut l vs
  | _, _ => []
def gsRest : List (Nat × XV) → List XV → List XV
  | _ :: l, _ :: vs => gsRest l vs
  | _, vs => vs
def gsApp : List XV → List XV → List XV
  | [], l => l
  | x :: k, l => x :: gsApp k l
def XS.into (S : XS) : XS := { S with s := [], gs := gsApp (gsIn S.s S.s) S.gs }
def XS.back (S S' : XS) : XS := { S' with s := gsOut S.s S'.gs, gs := gsRest S.s S'.gs }
/-- A call that may change what is told of memory. -/
def xcallL (X : Cx) (S : XS) (K : XV → XS → Prop) : Op → Prop
  | .call ⟨.value (.func f), args, _⟩ => match fnd X.L f with
    | some T =>
      let r := xargs (fun x => (xev S.s x).st [] none) args.toList
      andK r.1 (T r.2 S.into fun v S' => K v (S.back S'))
    | none => False
  | _ => False

/-- A slice of one's own that is only read from now on. -/
def xfrz (S : XS) (d : Nat) : Option (List Prop × XS) :=
  match look S.s d with
  | .sl id sz 0 n => match findR S.h id with
    | some (.vec e true n' sz' f) => match Nat.beq sz sz' with
      | true => some ([n = n'], { S with s := (d, .fz n' sz f) :: dropS id S.s, h := dropH id (delR S.h id), gs := dropC id S.gs })
      | false => none
    | _ => none
  | .v (.p (.slice none 0 0)) => some ([], S.put (some d) (.fz 0 1 fun _ => [.v (.p (.string ⟨#[]⟩))]))
  | .fz _ _ _ => some ([], S)
  | _ => none
/-- What a call is handed of one's own slices is only read from then on. -/
def frzArgs : List Operand → XS → Option (List Prop × XS)
  | [], S => some ([], S)
  | .tmp d :: l, S => match look S.s d with
    | .sl _ _ 0 _ => match xfrz S d with
      | some (cs, S1) => match frzArgs l S1 with
        | some (cs2, S2) => some (cs ++ cs2, S2)
        | none => none
      | none => none
    | _ => frzArgs l S
  | _ :: l, S => frzArgs l S
def callA (X : Cx) (S : XS) : Op → Option (List Prop × XS)
  | .call ⟨.value (.func f), args, _⟩ => match fnd X.C f with
    | some _ => frzArgs args.toList S
    | none => none
  | _ => none

def xgo (X : Cx) (N : Nat) (ops : List Oper) : List Oper → XS → List (Nat × Bool) → (XS → Prop) → Prop
  | [], S, _, K => K S
  | o :: os, S, G, K => match xdok N o.dst with
    | false => False
    | true => match o.guard with
      | none => match xstep X ops S G none o.op with
        | some (cs, v, w) => match wdst v o.op o.dst with
          | true => andK cs (xgo X N ops os ((S.put o.dst v).wr w) (dropGo ops o.dst G) K)
          | false => False
        | none => match xnew X S o.op with
          | some (cs, v, S') => andK cs (xgo X N ops os (S'.put o.dst v) [] K)
          | none => match callA X S o.op with
            | some (cs0, S1) => match xstep X ops S1 [] none o.op with
              | some (cs, v, none) => match wdst v o.op o.dst with
                | true => andK cs0 (andK cs (xgo X N ops os (S1.put o.dst v) [] K))
                | false => False
              | _ => False
            | none => xcallL X S (fun v S' => xgo X N ops os (S'.put o.dst v) [] K) o.op
      | some (j, b) => match xguard ops S G j b, o.dst with
        | some (g, k, G'), some d => match xstep X ops S G' k o.op with
          | some (cs, v, none) => andK (cs.map (g = true → ·)) (xgo X N ops os (S.put (some d) (.gd g k v)) (dropG ops d G') K)
          | _ => False
        | _, _ => False

/-- Tests that are decided, by their slots (none: not there). -/
abbrev DT := List (Nat × Option Bool)
def dropD (d : Nat) : DT → DT
  | [] => []
  | (k, g) :: l => bif Nat.beq k d then dropD d l else (k, g) :: dropD d l
def dropDo : Option Nat → DT → DT
  | some d, D => dropD d D
  | none, D => D
def slotOf (ops : List Oper) (j : Nat) : Option Nat := match nth ops j with
  | some ⟨d, _, _, _, _, _⟩ => d
  | none => none
/-- Which side a pick takes, where its test is decided. -/
def dpick (D : DT) : Op → Option Operand
  | .pick (.tmp s) a b => match fnd D s with
    | some (some true) => some a
    | some (some false) => some b
    | _ => none
  | _ => none
def eqBB : Bool → Bool → Bool
  | true, true => true
  | false, false => true
  | _, _ => false
/-- One operation, run where its tests are decided. -/
def xrun1 (X : Cx) (ops : List Oper) (S : XS) (D : DT) (o : Oper) (K : XS → DT → Prop) : Prop := match dpick D o.op with
  | some x => let p := (xev S.s x).st [] none
    match notGd p.2 with
    | true => andK p.1 (K (S.put o.dst p.2) (dropDo o.dst D))
    | false => False
  | none => match xstep X ops S [] none o.op with
    | some (cs, v, w) => match wdst v o.op o.dst with
      | true => andK cs (K ((S.put o.dst v).wr w) (dropDo o.dst D))
      | false => False
    | none => match xnew X S o.op with
      | some (cs, v, S') => andK cs (K (S'.put o.dst v) [])
      | none => xcallL X S (fun v S' => K (S'.put o.dst v) []) o.op
def xoff (S : XS) (D : DT) (o : Oper) (K : XS → DT → Prop) : Prop := match o.dst with
  | some d => K (S.put (some d) (.v (.p undef))) ((d, none) :: dropD d D)
  | none => K S D
/-- A region's operations, where each test parts the ways. -/
def xgf (X : Cx) (N : Nat) (ops : List Oper) (m : Bool) : List Oper → XS → DT → (XS → Prop) → Prop
  | [], S, D, K => K S
  | o :: os, S, D, K => match xdok N o.dst with
    | false => False
    | true => match o.guard with
      | none => xrun1 X ops S D o fun S D => xgf X N ops m os S D K
      | some (j, b) => match slotOf ops j with
        | none => False
        | some s => match Nat.blt s N, fnd D s with
          | false, _ => False
          | true, some none => xoff S D o fun S D => xgf X N ops m os S D K
          | true, some (some c) => match eqBB c b with
            | true => xrun1 X ops S D o fun S D => xgf X N ops m os S D K
            | false => xoff S D o fun S D => xgf X N ops m os S D K
          | true, none => match look S.s s with
            | .v (.p (.bool c)) => match m with
              | true => match c with
                | true => match b with
                  | true => xrun1 X ops (S.put (some s) (.v (.p (.bool true)))) ((s, some true) :: dropD s D) o fun S D => xgf X N ops m os S D K
                  | false => xoff (S.put (some s) (.v (.p (.bool true)))) ((s, some true) :: dropD s D) o fun S D => xgf X N ops m os S D K
                | false => match b with
                  | true => xoff (S.put (some s) (.v (.p (.bool false)))) ((s, some false) :: dropD s D) o fun S D => xgf X N ops m os S D K
                  | false => xrun1 X ops (S.put (some s) (.v (.p (.bool false)))) ((s, some false) :: dropD s D) o fun S D => xgf X N ops m os S D K
              | false => (c = b → xrun1 X ops (S.put (some s) (.v (.p (.bool b)))) ((s, some b) :: dropD s D) o fun S D => xgf X N ops m os S D K) ∧
                (c = (!b) → xoff (S.put (some s) (.v (.p (.bool (!b))))) ((s, some (!b)) :: dropD s D) o fun S D => xgf X N ops m os S D K)
            | _ => False

/-- Which own block an operation looks at. -/
def touch (s : List (Nat × XV)) : Op → List Nat
  | .load _ x => ptrId ((xev s x).st [] none).2
  | .store _ x _ => ptrId ((xev s x).st [] none).2
  | .slice _ x _ _ _ => ptrId ((xev s x).st [] none).2
  | .convert _ _ x => slId ((xev s x).st [] none).2
  | .call c => match c.args.toList with
    | x :: _ => ptrId ((xev s x).st [] none).2
    | [] => []
  | _ => []

def thereB (h : List (Nat × XRow)) : List Nat → List Nat
  | [] => []
  | id :: l => match findR h id with
    | some _ => id :: thereB h l
    | none => thereB h l

/-- Regions whose order is drawn: in the text's order; beside it, what each touches. -/
def xdr (X : Cx) (N : Nat) (ops : List Oper) : List Oper → XS → List (Nat × Bool) → List (List Nat × Option Nat) → (XS → List (List Nat × Option Nat) → Prop) → Prop
  | [], S, _, acc, K => K S acc
  | o :: os, S, G, acc, K => match xdok N o.dst with
    | false => False
    | true => match o.guard with
      | none => match xstep X ops S G none o.op with
        | some (cs, v, w) => match wdst v o.op o.dst with
          | true => andK cs (xdr X N ops os ((S.put o.dst v).wr w) (dropGo ops o.dst G) ((thereB S.h (touch S.s o.op), w.map (·.1)) :: acc) K)
          | false => False
        | none => False
      | some (j, b) => match xguard ops S G j b, o.dst with
        | some (g, k, G'), some d => match xstep X ops S G' k o.op with
          | some (cs, v, none) => andK (cs.map (g = true → ·)) (xdr X N ops os (S.put (some d) (.gd g k v)) (dropG ops d G') ((thereB S.h (touch S.s o.op), none) :: acc) K)
          | _ => False
        | _, _ => False

/-- New variables, one behind the other. -/
def xal (X : Cx) (N : Nat) : List Oper → XS → Option XS
  | [], S => some S
  | o :: os, S => match o.dst, xdok N o.dst, o.op with
    | some d, true, .alloc T => match fnd X.U T, fnd X.I T with
      | some _, some (z, _, _) => match xones (zcells z) with
        | true => xal X N os (XS.put { S with h := (S.nx, .one T true (zcells z)) :: S.h, nx := S.nx + 1 } (some d) (.ptr S.nx 0 0 0))
        | false => none
      | _, _ => none
    | _, _, _ => none

/-! Code -/

/-- A state that is told anew: at a loop's head, or where ways meet. -/
structure Inv where
  σ : Type
  S : σ → XS
  inv : σ → Prop
  μ : σ → Nat

/-- An invariant that knows what does not change behind the loop's head. -/
structure InvP where
  α : Type
  J : α → Inv
inductive Sc : Type 1 where
  | nil
  | seq (a b : Sc)
  | cut (J : Inv) (a b : Sc)
  | cond (a b : Sc)
  | T (a : Sc)
  | F (a : Sc)
  | blk (a : Sc)
  | loop (J : Inv) (a : Sc)
  | loopP (J : InvP) (a : Sc)
  | roll (n : Nat) (a : Sc)
  | D (a b : Sc)
  | cas (d : Nat) (l : List Int) (k : Sc)
  | fk (m : Bool)
  | casb (d : Nat) (k : Sc)
  | frzc (d o : Nat) (k : Sc)
  | own (d : Nat) (e : TypeId) (sz : Nat) (k : Sc)
  | frz (d : Nat) (k : Sc)

def VM : XV → XV → Prop
  | .v (.p (.int k a)), .v (.p (.int k' b)) => match kb k k' with
    | true => a = b
    | false => False
  | .v (.p (.bool a)), .v (.p (.bool b)) => a = b
  | .v (.p (.string a)), .v (.p (.string b)) => a = b
  | x, y => x = y
def VML : List XV → List XV → Prop
  | [], [] => True
  | x :: l, y :: k => VM x y ∧ VML l k
  | _, _ => False
def RM : XRow → XRow → Prop
  | .one e ap cs, .one e' ap' ds => (e = e' ∧ ap = ap') ∧ VML cs ds
  | .vec e ap n sz f, .vec e' ap' n' sz' f' => (e = e' ∧ ap = ap' ∧ sz = sz') ∧ n = n' ∧ ∀ j, j < n → f j = f' j
  | .vecU e ap n sz i cs f, .vec e' ap' n' sz' f' => (e = e' ∧ ap = ap' ∧ sz = sz') ∧ n = n' ∧ ∀ j, j < n → (bif Nat.beq j i then cs else f j) = f' j
  | _, _ => False
mutual
def XV.lt (n : Nat) : XV → Bool
  | .sl i _ _ _ => Nat.blt i n
  | .ptr i _ _ _ => Nat.blt i n
  | .agg cs => ltL n cs
  | .tup cs => ltL n cs
  | .gd _ _ x => x.lt n
  | _ => true
def ltL (n : Nat) : List XV → Bool
  | [] => true
  | x :: l => x.lt n && ltL n l
end
def ltS (n : Nat) : List (Nat × XV) → Bool
  | [] => true
  | (_, v) :: l => v.lt n && ltS n l
def ltH (n : Nat) : List (Nat × XRow) → Bool
  | [] => true
  | (d, .one _ _ cs) :: l => Nat.blt d n && (ltL n cs && ltH n l)
  | (d, .vec ..) :: l => Nat.blt d n && ltH n l
  | (d, .vecU ..) :: l => Nat.blt d n && ltH n l
def nodupH : List (Nat × XRow) → Bool
  | [] => true
  | (d, _) :: l => (match findR l d with | none => true | some _ => false) && nodupH l
/-- What is told (P) is so (S). -/
def SMs (S : XS) : List (Nat × XV) → Prop → Prop
  | [], K => K
  | (d, v) :: l, K => VM (look S.s d) v ∧ SMs S l K
def SMh (S : XS) : List (Nat × XRow) → Prop → Prop
  | [], K => K
  | (d, r) :: l, K => (match findR S.h d with | some r' => RM r' r | none => False) ∧ SMh S l K
def pinB (P : XS) : Bool := match P.pn with
  | false => true
  | true => match findR P.h 0 with
    | some (.one ..) => Nat.blt 0 P.nx
    | _ => false
def eqB : Bool → Bool → Bool
  | true, true => true
  | false, false => true
  | _, _ => false
def scopeB (S P : XS) : Bool := ltS P.nx P.s && (ltH P.nx P.h && (nodupH P.h && (pinB P && (eqB S.pn P.pn && ltL P.nx P.gs))))
def SMg : List XV → List XV → Prop → Prop
  | [], [], K => K
  | a, b, K => VML a b ∧ K
def SM (S P : XS) : Prop := scopeB S P = true ∧ SMs S P.s (SMh S P.h (SMg S.gs P.gs True))

def thnX (K : XS → Prop) (Q : Exit → XS → Prop) : Exit → XS → Prop
  | .normal, S => K S
  | e, S => Q e S
def inbX (id : Nat) (Q : Exit → XS → Prop) : Exit → XS → Prop
  | .exit j, S => bif Nat.beq j id then Q .normal S else Q (.exit j) S
  | e, S => Q e S

def Sc.l : Sc → Sc
  | .seq a _ => a
  | .cond a _ => a
  | .blk a => a
  | _ => .nil
def Sc.r : Sc → Sc
  | .seq _ b => b
  | .cond _ b => b
  | _ => .nil

def xown (S : XS) (d : Nat) (e : TypeId) (sz : Nat) : Option XS :=
  match look S.s d with
  | .v (.p (.slice none 0 0)) => some { S with s := (d, .sl S.nx sz 0 0) :: S.s, h := (S.nx, .vec e true 0 sz fun _ => []) :: S.h, nx := S.nx + 1 }
  | _ => none
/-- A slice of one's own, in a cell of a variable, that is only read from now on. -/
def xfrzc (S : XS) (d o : Nat) : Option (List Prop × XS) :=
  match look S.s d with
  | .ptr v 0 0 0 => match findR S.h v with
    | some (.one e ap cs) => match xget cs o with
      | .sl id sz 0 n => match findR S.h id with
        | some (.vec _ true n' sz' f) => match Nat.beq sz sz' with
          | true => some ([n = n'], { S with s := dropS id S.s, h := (v, .one e ap (xsplice (dropC id cs) [.fz n' sz f] o)) :: dropH id (delR (delR S.h v) id), gs := dropC id S.gs })
          | false => none
        | _ => none
      | _ => none
    | _ => none
  | _ => none
/-- What is done ahead of a piece of code. -/
def pre0 : Sc → XS → Option (List Prop × XS × Sc)
  | .own d e sz k, S => match xown S d e sz with
    | some S' => pre0 k S'
    | none => none
  | .frz d k, S => match xfrz S d with
    | some (cs, S') => match pre0 k S' with
      | some (ds, r) => some (cs ++ ds, r)
      | none => none
    | none => none
  | .frzc d o k, S => match xfrzc S d o with
    | some (cs, S') => match pre0 k S' with
      | some (ds, r) => some (cs ++ ds, r)
      | none => none
    | none => none
  | sc, S => some ([], S, sc)

def hasPre : Sc → Bool
  | .own .. => true
  | .frz .. => true
  | .frzc .. => true
  | _ => false
def pre (sc : Sc) (S : XS) : Option (List Prop × XS × Sc) := match hasPre sc with
  | true => pre0 sc S.pl
  | false => some ([], S, sc)

/-- A loop's rounds one by one, at most so many. -/
def xroll (body : XS → (Exit → XS → Prop) → Prop) (Q : Exit → XS → Prop) : Nat → XS → Prop
  | 0, _ => False
  | k + 1, S => body S (thnX (fun S' => xroll body Q k S') Q)
/-- A slot's number is one of so few: each by itself. -/
def casD (v : Int) : List Int → Prop
  | [] => False
  | c :: l => v = c ∨ casD v l
def casP (v : Int) (f : Int → Prop) : List Int → Prop
  | [] => True
  | c :: l => (v = c → f c) ∧ casP v f l
def xcas (f : XS → Sc → Prop) : Sc → XS → Prop
  | .cas d l k, S => match look S.s d with
    | .v (.p (.int kk v)) => casD v l ∧ casP v (fun c => xcas f k { S with s := (d, .v (.p (.int kk c))) :: S.s }) l
    | _ => False
  | .casb d k, S => match look S.s d with
    | .v (.p (.bool v)) => (v = true → xcas f k { S with s := (d, .v (.p (.bool true))) :: S.s }) ∧ (v = false → xcas f k { S with s := (d, .v (.p (.bool false))) :: S.s })
    | _ => False
  | sc, S => f S sc
def xwp (X : Cx) (N : Nat) : Code → Sc → XS → (Exit → XS → Prop) → Prop
  | .skip, _, S, Q => Q .normal S
  | .region _ ops draw, sc, S, Q => xcas (fun S sc => match draw with
    | false => match sc with
      | .fk m => xgf X N ops.toList m ops.toList S [] fun S' => Q .normal S'
      | _ => xgo X N ops.toList ops.toList S [] fun S' => Q .normal S'
    | true => xdr X N ops.toList (ops.toList.take (dropAl ops.toList (drawN ops.toList))) S [] [] fun S' acc =>
      match ordBk ops.toList.toArray (dropAl ops.toList (drawN ops.toList)) acc.reverse && sepA ops.toList.toArray (ops.toList.take (dropAl ops.toList (drawN ops.toList))) ((ops.toList.take (drawN ops.toList)).drop (dropAl ops.toList (drawN ops.toList))) with
      | true => match xal X N ((ops.toList.take (drawN ops.toList)).drop (dropAl ops.toList (drawN ops.toList))) S' with
        | some S2 => xgo X N ops.toList (ops.toList.drop (drawN ops.toList)) S2 [] fun S'' => Q .normal S''
        | none => False
      | false => False) sc S
  | .seq a b, sc, S, Q => xcas (fun S sc => match pre sc S with
    | none => False
    | some (cs, S, .cut J s1 s2) => andK cs (xwp X N a s1 S (thnX (fun S' => ∃ x, J.inv x ∧ SM S' (J.S x)) Q) ∧ ∀ x, J.inv x → xwp X N b s2 (J.S x) Q)
    | some (cs, S, sc) => andK cs (xwp X N a sc.l S (thnX (fun S' => xwp X N b sc.r S' Q) Q))) sc S
  | .cond o a b, sc, S, Q => match (xev S.s o).st [] none with
    | (p, .v (.p (.bool c))) => andK p (match sc with
      | .T s => c = true ∧ xwp X N a s S Q
      | .F s => c = false ∧ xwp X N b s S Q
      | .D s1 s2 => match c with
        | true => xwp X N a s1 S Q
        | false => xwp X N b s2 S Q
      | sc => (c = true → xwp X N a sc.l S Q) ∧ (c = false → xwp X N b sc.r S Q))
    | _ => False
  | .block id c, sc, S, Q => xwp X N c sc.l S (inbX id Q)
  | .loop c, sc, S, Q => match sc with
    | .loop J s => (∃ x, J.inv x ∧ SM S (J.S x)) ∧ ∀ x, J.inv x → xwp X N c s (J.S x) (thnX (fun S' => ∃ x', J.inv x' ∧ J.μ x' < J.μ x ∧ SM S' (J.S x')) Q)
    | .loopP P s => ∃ p, (∃ x, (P.J p).inv x ∧ SM S ((P.J p).S x)) ∧ ∀ x, (P.J p).inv x → xwp X N c s ((P.J p).S x) (thnX (fun S' => ∃ x', (P.J p).inv x' ∧ (P.J p).μ x' < (P.J p).μ x ∧ SM S' ((P.J p).S x')) Q)
    | .roll n s => xroll (fun S Q => xwp X N c s S Q) Q n S
    | _ => False
  | .exit id, _, S, Q => Q (.exit id) S
  | .ret, _, S, Q => Q .ret S
  | _, _, _, _ => False

/-! Scripts by numbers: loops by their blocks' numbers; states that are told anew, slices of one's own, slices that are only read: by the regions that follow. -/
structure Env where
  loops : List (Nat × Inv) := []
  loopsP : List (Nat × InvP) := []
  cuts : List (Nat × Inv) := []
  own : List (Nat × List (Nat × Nat × Nat)) := []
  frz : List (Nat × List Nat) := []
  rolls : List (Nat × Nat) := []
  rollu : List (Nat × Nat) := []
  cas : List (Nat × Nat × List Int) := []
  fork : List Nat := []
  gdec : List Nat := []
  dec : List Nat := []
  casb : List (Nat × List Nat) := []
  frzc : List (Nat × List (Nat × Nat)) := []
def reg1 : Code → Option Nat
  | .region r _ _ => some r
  | .seq a _ => reg1 a
  | _ => none
def owns : List (Nat × Nat × Nat) → Sc → Sc
  | [], k => k
  | (d, e, sz) :: l, k => .own d e sz (owns l k)
def frzs : List Nat → Sc → Sc
  | [], k => k
  | d :: l, k => .frz d (frzs l k)
def frzcs : List (Nat × Nat) → Sc → Sc
  | [], k => k
  | (d, o) :: l, k => .frzc d o (frzcs l k)
def preSc0 (E : Env) (r : Nat) (k : Sc) : Sc := match fnd E.frzc r with
  | some l => frzcs l k
  | none => k
def preSc (E : Env) (k : Sc) : Code → Sc
  | .region r _ _ => match fnd E.own r, fnd E.frz r with
    | some l, some m => owns l (frzs m (preSc0 E r k))
    | some l, none => owns l (preSc0 E r k)
    | none, some m => frzs m (preSc0 E r k)
    | none, none => preSc0 E r k
  | _ => k
/-- The question at the head of a loop whose rounds are gone one by one. -/
def rolled (E : Env) : Code → Code → Bool
  | .skip, .exit id => match fnd E.rolls id with
    | some _ => true
    | none => false
  | _, _ => false
def casbs : List Nat → Sc → Sc
  | [], k => k
  | d :: l, k => .casb d (casbs l k)
def casSc (E : Env) (k : Sc) : Code → Sc
  | .region r _ _ => match fnd E.cas r, fnd E.casb r with
    | some (d, l), none => .cas d l k
    | none, some l => casbs l k
    | some (d, l), some l' => .cas d l (casbs l' k)
    | none, none => k
  | _ => k
/-- Is the question decided? -/
def decided (E : Env) (a b : Code) : Bool := match reg1 a, reg1 b with
  | some r, some r' => memN r E.dec || memN r' E.dec
  | some r, none => memN r E.dec
  | none, some r => memN r E.dec
  | none, none => false
def mkSc (E : Env) : Code → Sc
  | .region r ops d => casSc E (match memN r E.fork, memN r E.gdec with | true, _ => .fk false | _, true => .fk true | _, _ => .nil) (.region r ops d)
  | .seq a b => preSc E (match reg1 b with
    | some r => match fnd E.cuts r with
      | some J => .cut J (mkSc E a) (mkSc E b)
      | none => .seq (mkSc E a) (mkSc E b)
    | none => .seq (mkSc E a) (mkSc E b)) a
  | .cond _ a b => match rolled E a b || decided E a b with
    | true => .D (mkSc E a) (mkSc E b)
    | false => .cond (mkSc E a) (mkSc E b)
  | .block id (.loop c) => match fnd E.loops id with
    | some J => .blk (.loop J (mkSc E c))
    | none => match fnd E.rolls id with
      | some n => .blk (.roll n (mkSc E c))
      | none => match fnd E.loopsP id with
        | some P => .blk (.loopP P (mkSc E c))
        | none => match fnd E.rollu id with
          | some n => .blk (.roll n (mkSc E c))
          | none => .nil
  | .block _ c => .blk (mkSc E c)
  | _ => .nil

/-! Words -/
abbrev XI (i : Int) : XV := .v (.p (.int .i64 i))
abbrev XB (b : Bool) : XV := .v (.p (.bool b))
abbrev XT (b : ByteArray) : XV := .v (.p (.string b))
abbrev X8 (i : Int) : XV := .v (.p (.int .u8 i))
abbrev X32 (i : Int) : XV := .v (.p (.int .i32 i))
abbrev Xnil : XV := .v (.p (.slice none 0 0))
def intO : XV → Option Int
  | .v (.p (.int .i64 i)) => some i
  | _ => none
def boolO : XV → Option Bool
  | .v (.p (.bool b)) => some b
  | _ => none
def strO : XV → Option ByteArray
  | .v (.p (.string b)) => some b
  | _ => none
def nilO : XV → Bool
  | .v (.p (.slice none 0 0)) => true
  | _ => false
theorem intO_eq {x : XV} {i : Int} (h : intO x = some i) : x = XI i := by
  unfold intO at h
  split at h
  · rw [Option.some.inj h]
  · cases h
theorem boolO_eq {x : XV} {i : Bool} (h : boolO x = some i) : x = XB i := by
  unfold boolO at h
  split at h
  · rw [Option.some.inj h]
  · cases h
theorem strO_eq {x : XV} {i : ByteArray} (h : strO x = some i) : x = XT i := by
  unfold strO at h
  split at h
  · rw [Option.some.inj h]
  · cases h
theorem nilO_eq {x : XV} (h : nilO x = true) : x = Xnil := by
  unfold nilO at h
  split at h
  · rfl
  · cases h
/-- How a value of a kind is read off an argument, and how it stands there. -/
structure Dc (α : Type) where
  dec : XV → Option (List Prop × α)
  enc : α → XV
def dInt : Dc Int := ⟨fun x => match intO x with | some i => some ([], i) | none => none, XI⟩
def dBool : Dc Bool := ⟨fun x => match boolO x with | some i => some ([], i) | none => none, XB⟩
def dStr : Dc ByteArray := ⟨fun x => match strO x with | some i => some ([], i) | none => none, XT⟩
/-- A slice that is only read: how many, and which. -/
structure Sq (β : Type) where
  n : Nat
  g : Nat → β
def Sq.ofList {β : Type} (l : List β) (d : β) : Sq β := ⟨l.length, fun i => l.getD i d⟩
def Sq.toList {β : Type} (q : Sq β) : List β := (List.range q.n).map q.g
def sqX {β : Type} (sz : Nat) (e : β → List XV) (q : Sq β) : XV := .fz q.n sz fun i => e (q.g i)
def dSl {β : Type} (sz : Nat) (r : List XV → β) (e : β → List XV) (d : β) : Dc (Sq β) := ⟨fun x => match x with
  | .fz n s f => match Nat.beq s sz with
    | true => some ([∀ i, i < n → f i = e (r (f i))], ⟨n, fun i => r (f i)⟩)
    | false => none
  | x => match nilO x with
    | true => some ([], ⟨0, fun _ => d⟩)
    | false => none, sqX sz e⟩
def intD (x : XV) : Int := match intO x with | some i => i | none => 0
def boolD (x : XV) : Bool := match boolO x with | some i => i | none => false
def strD (x : XV) : ByteArray := match strO x with | some i => i | none => ⟨#[]⟩
def dStrs : Dc (Sq ByteArray) := dSl 1 (fun l => strD (xget l 0)) (fun s => [XT s]) ⟨#[]⟩
def dInts : Dc (Sq Int) := dSl 1 (fun l => intD (xget l 0)) (fun s => [XI s]) 0

def C0 (cs : List Prop) (v : XV) : CT
  | [] => some (cs, v)
  | _ => none
def C1 {α : Type} (d : Dc α) (cs : α → List Prop) (v : α → XV) : CT
  | [x] => match d.dec x with
    | some (p, a) => some (p ++ cs a, v a)
    | none => none
  | _ => none
def C2 {α β : Type} (d : Dc α) (e : Dc β) (cs : α → β → List Prop) (v : α → β → XV) : CT
  | [x, y] => match d.dec x, e.dec y with
    | some (p, a), some (q, b) => some (p ++ (q ++ cs a b), v a b)
    | _, _ => none
  | _ => none
def C3 {α β γ : Type} (d : Dc α) (e : Dc β) (f : Dc γ) (cs : α → β → γ → List Prop) (v : α → β → γ → XV) : CT
  | [x, y, z] => match d.dec x, e.dec y, f.dec z with
    | some (p, a), some (q, b), some (r, c) => some (p ++ (q ++ (r ++ cs a b c)), v a b c)
    | _, _, _ => none
  | _ => none
/-- A variable's cells. -/
structure DcL (α : Type) where
  dec : List XV → Option (List Prop × α)
  enc : α → List XV
def H0 {α : Type} (d : DcL α) (cs : α → List Prop) (v : α → XV) (o : α → Option α) : HT := fun cells rest => match rest with
  | [] => match d.dec cells with
    | some (p, a) => some (p ++ cs a, v a, (o a).map d.enc)
    | none => none
  | _ => none
def H1 {α β : Type} (d : DcL α) (e : Dc β) (cs : α → β → List Prop) (v : α → β → XV) (o : α → β → Option α) : HT := fun cells rest => match rest with
  | [x] => match d.dec cells, e.dec x with
    | some (p, a), some (q, b) => some (p ++ (q ++ cs a b), v a b, (o a b).map d.enc)
    | _, _ => none
  | _ => none
def N2 {α β : Type} (d : Dc α) (e : Dc β) (cs : α → β → List Prop) (c : α → β → List XV) : NT
  | [x, y] => match d.dec x, e.dec y with
    | some (p, a), some (q, b) => some (p ++ (q ++ cs a b), c a b)
    | _, _ => none
  | _ => none

def bodyOf (f : Func) : Code := match f.body with
  | some c => c
  | none => .skip

/-! Functions -/
def xslots : Nat → List XV → List (Nat × XV)
  | _, [] => []
  | k, x :: l => (k, x) :: xslots (k + 1) l
def xres (X : Cx) (S : XS) : ResultVar → Option XV
  | .tmp s => some (look S.s s)
  | .cell c T => match look S.s c, aggB (fnd X.U T), fnd X.I T with
    | .ptr id 0 0 o, some a, some (_, m, _) => match findR S.h id with
      | some (.one _ _ cs) => match a with
        | true => match Nat.ble (o + m) (xlen cs) with | true => some (.agg (xtake m (xdrop o cs))) | false => none
        | false => match Nat.blt o (xlen cs) with | true => some (xget cs o) | false => none
      | _ => none
    | _, _, _ => none
def xress (X : Cx) (S : XS) : List ResultVar → Option (List XV)
  | [] => some []
  | r :: rs => match xres X S r, xress X S rs with
    | some v, some vs => some (v :: vs)
    | _, _ => none
def xout : List XV → XV
  | [v] => v
  | vs => .tup vs
mutual
/-- A result is as it is told. -/
def RX (S : XS) : XV → XV → Prop
  | .sl id sz 0 n, .fz n' sz' g => match findR S.h id with
    | some (.vec _ true m s f) => (s = sz ∧ sz = sz') ∧ m = n ∧ n = n' ∧ ∀ j, j < n → f j = g j
    | _ => False
  | .v (.p (.slice none 0 0)), .fz n _ _ => n = 0
  | .fz n sz f, .fz n' sz' g => sz = sz' ∧ n = n' ∧ ∀ j, j < n → f j = g j
  | .agg cs, .agg ds => RXL S cs ds
  | .tup cs, .tup ds => RXL S cs ds
  | x, y => VM x y
def RXL (S : XS) : List XV → List XV → Prop
  | [], [] => True
  | x :: l, y :: k => RX S x y ∧ RXL S l k
  | _, _ => False
end
mutual
/-- It names no block of one's own. -/
def XV.pd : XV → Bool
  | .v _ => true
  | .fz .. => true
  | .agg cs => pdL cs
  | .tup cs => pdL cs
  | _ => false
def pdL : List XV → Bool
  | [] => true
  | x :: l => x.pd && pdL l
end
def retX (X : Cx) (rs : List ResultVar) (R : XV → XS → Prop) : Exit → XS → Prop
  | .normal, S => match xress X S rs with
    | some vs => R (xout vs) S.pl
    | none => False
  | .ret, S => match xress X S rs with
    | some vs => R (xout vs) S.pl
    | none => False
  | _, _ => False
/-- A variable's cells are as told. -/
def rowIs (S : XS) (id : Nat) (T : TypeId) (ap : Bool) (cells : List XV) : Prop :=
  match findR S.h id with
  | some (.one e ap' ds) => (e = T ∧ ap' = ap) ∧ RXL S ds cells
  | _ => False
/-- A contract's function, run: of arguments that name no own block. -/
def funC (X : Cx) (fn : Func) (sc : Sc) (args : List XV) (v : XV) : Prop := xwp X fn.ntmps (bodyOf fn) sc ⟨xslots 0 args, [], 0, false, []⟩ (retX X fn.results.toList fun r S => RX S r v)
def funH (X : Cx) (fn : Func) (sc : Sc) (e : TypeId) (ap : Bool) (cells rest : List XV) (v : XV) (cells' : List XV) : Prop :=
  xwp X fn.ntmps (bodyOf fn) sc ⟨(0, .ptr 0 0 0 0) :: xslots 1 rest, [(0, .one e ap cells)], 1, true, []⟩ (retX X fn.results.toList fun r S => match S.pn with
    | true => RX S r v ∧ rowIs S 0 e ap cells'
    | false => False)
/-- A function entered: run over what its caller is told. -/
def inl (X : Cx) (fn : Func) (sc : List XV → XS → Sc) : IT := fun args S K => match Nat.ble (xlen args) fn.ntmps with
  | true => xwp X fn.ntmps (bodyOf fn) (sc args S) { S with s := xslots 0 args } (retX X fn.results.toList K)
  | false => False
def ptrIs (S : XS) (T : TypeId) (cells : List XV) : XV → Prop
  | .ptr id 0 0 0 => rowIs S id T true cells
  | _ => False
def funN (X : Cx) (fn : Func) (sc : Sc) (args : List XV) (T : TypeId) (cells : List XV) : Prop := xwp X fn.ntmps (bodyOf fn) sc ⟨xslots 0 args, [], 0, false, []⟩ (retX X fn.results.toList fun r S => ptrIs S T cells r)

/-- A contract with several ends: of arguments: conditions; and what it may return, each beside what is known then. -/
abbrev AT := List XV → Option (List Prop × List (Prop × XV))
def altK : List (Prop × XV) → XS → (XV → XS → Prop) → Prop
  | [], _, _ => True
  | (φ, v) :: l, S, K => (φ → K v S) ∧ altK l S K
def altQ (S : XS) (r : XV) : List (Prop × XV) → Prop
  | [] => False
  | (φ, v) :: l => (φ ∧ RX S r v) ∨ altQ S r l
def itA (C : AT) : IT := fun args S K => match C args with
  | some (cs, alts) => andK cs (altK alts S K)
  | none => False
def funA (X : Cx) (fn : Func) (sc : Sc) (args : List XV) (alts : List (Prop × XV)) : Prop := xwp X fn.ntmps (bodyOf fn) sc ⟨xslots 0 args, [], 0, false, []⟩ (retX X fn.results.toList fun r S => altQ S r alts)

end Go.Proofs.YtljgkjkdmoejfaaAv
