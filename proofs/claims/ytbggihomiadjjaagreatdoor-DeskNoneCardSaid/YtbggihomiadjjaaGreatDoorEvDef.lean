/- What is said: an evaluator of Go functions over an abstract memory: rows by number, slices whose room is not known. Definitions alone. -/
import GoSem.Claims
set_option linter.unusedVariables false
namespace Go.Ev
open Go

/-! ### Tries -/
inductive T (α : Type) where
  | E
  | N (l : T α) (v : Option α) (r : T α)
/-- What stands at a number. -/
noncomputable def T.get {α : Type} (t : T α) : Nat → Option α :=
  T.rec (motive := fun _ => Nat → Option α) (fun _ => none) (fun _ v _ il ir k => Nat.rec (motive := fun _ => Option α) v (fun j _ => Bool.rec (motive := fun _ => Option α) (il (Nat.div j 2)) (ir (Nat.div j 2)) (Nat.beq (Nat.mod j 2) 1)) k) t
/-- It is set, where the trie has the place. -/
noncomputable def T.set {α : Type} (t : T α) (k : Nat) (v : α) : T α :=
  T.rec (motive := fun _ => Nat → T α) (fun _ => .E) (fun l x r il ir k => Nat.rec (motive := fun _ => T α) (.N l (some v) r) (fun j _ => Bool.rec (motive := fun _ => T α) (.N (il (Nat.div j 2)) x r) (.N l x (ir (Nat.div j 2))) (Nat.beq (Nat.mod j 2) 1)) k) t k
/-- All places, so many steps deep. -/
def T.full {α : Type} : Nat → T α
  | 0 => .E
  | n + 1 => .N (T.full n) none (T.full n)

/-! ### Values -/
/-- The room of a slice: known, or unknown (then the size of an element is). -/
inductive Cap where
  | k (c : Nat)
  | u (z : Nat)
  deriving Inhabited
inductive AV where
  | bool (b : Bool)
  | int (k : IntKind) (n : Int)
  | str (n c : Nat)
  | nil
  | ptr (i o : Nat)
  | slN
  | sl (i o n : Nat) (c : Cap)
  | fn (f : Nat) (first cap : List AV)
  | nilF
  | agg (l : List AV)
  | bag (n c : Nat)
  | tup (l : List AV)
  | ifc (t : Nat) (v : AV)
  | nilI
  | undef
  | val (t : Nat) (v : Value)
  deriving Inhabited

inductive Row where
  | cells (e : Nat) (room : Bool) (l : List AV)
  | bytes (e : Nat) (room : Bool) (n c : Nat)
  | dead
  deriving Inhabited

structure S where
  h : T Row
  nx : Nat

abbrev R := Option (AV × S)

/-! ### Bytes in a number, the first one least -/
def bAt (c i : Nat) : Nat := Nat.mod (Nat.shiftRight c (Nat.mul 8 i)) 256
def bSub (c o n : Nat) : Nat := Nat.mod (Nat.shiftRight c (Nat.mul 8 o)) (Nat.pow 2 (Nat.mul 8 n))
def bCat (n c d : Nat) : Nat := Nat.add c (Nat.shiftLeft d (Nat.mul 8 n))
def bPut (n c o m d : Nat) : Nat := bCat o (bSub c 0 o) (bCat m d (bSub c (Nat.add o m) (Nat.sub n (Nat.add o m))))
def bOf : List UInt8 → Nat
  | [] => 0
  | x :: l => x.toNat + 256 * bOf l
def bList (c : Nat) : Nat → Nat → List AV
  | 0, _ => []
  | n + 1, i => .int .u8 (.ofNat (bAt c i)) :: bList c n (Nat.succ i)
/-- Less, byte by byte. -/
def bLess (n c m d : Nat) : Nat → Nat → Bool
  | 0, i => Nat.blt n m
  | f + 1, i => bif Nat.ble n i || Nat.ble m i then Nat.blt n m else
    bif Nat.blt (bAt c i) (bAt d i) then true else bif Nat.blt (bAt d i) (bAt c i) then false else bLess n c m d f (i + 1)

/-! ### Constants -/
def packL : List AV → Option Nat
  | [] => some 0
  | .int .u8 (.ofNat x) :: l => bif Nat.blt x 256 then (packL l).bind fun c => some (Nat.add x (Nat.mul 256 c)) else none
  | _ => none
/-- Is it what one cell holds? -/
def AV.one : AV → Bool
  | .agg _ | .bag _ _ | .tup _ | .undef => false
  | _ => true
def allOne : List AV → Bool
  | [] => true
  | x :: l => bif x.one then allOne l else false
mutual
def ofV : Value → Option AV
  | .bool b => some (.bool b)
  | .int k n => some (.int k n)
  | .string s => some (.str s.size (bOf s.data.toList))
  | .pointer none => some .nil
  | .slice none 0 0 => some .slN
  | .nilFunc => some .nilF
  | .nilIface => some .nilI
  | .agg ⟨l⟩ => (ofVs l).bind fun l => bif allOne l then some (.agg l) else none
  | .tuple ⟨l⟩ => (ofVs l).map .tup
  | _ => none
def ofVs : List Value → Option (List AV)
  | [] => some []
  | v :: l => match ofV v, ofVs l with
    | some a, some as => some (a :: as)
    | _, _ => none
end
def nth {α : Type} : List α → Nat → Option α
  | [], _ => none
  | x :: _, 0 => some x
  | _ :: l, i + 1 => nth l i
def lenL {α : Type} : List α → Nat
  | [] => 0
  | _ :: l => Nat.succ (lenL l)
def dropL {α : Type} : Nat → List α → List α
  | 0, l => l
  | _ + 1, [] => []
  | n + 1, _ :: l => dropL n l
/-- So many from the front; none where there are fewer. -/
def takeL {α : Type} : Nat → List α → Option (List α)
  | 0, _ => some []
  | _ + 1, [] => none
  | n + 1, x :: l => (takeL n l).bind fun r => some (x :: r)
/-- All cells are bytes? -/
def allB : List AV → Bool
  | [] => true
  | .int .u8 _ :: l => allB l
  | _ => false
/-- How many cells? -/
def AV.cnt : AV → Nat
  | .agg l => lenL l
  | .bag n _ => n
  | _ => 1
/-- The cells of a value that has some. -/
def AV.cel : AV → Option (List AV)
  | .agg l => some l
  | .bag n c => some (bList c n 0)
  | .tup _ => none
  | .undef => none
  | v => some [v]

noncomputable section
variable (P : Program)
def infoT (t : Nat) : Option TypeInfo := nth P.types.toList t
def undT (t : Nat) : Option TypeDesc := match infoT P t with
  | some i => match i.desc with
    | .named _ u => (infoT P u).bind fun j => some j.desc
    | d => some d
  | none => none
def sizeT (t : Nat) : Option Nat := (infoT P t).bind fun i => some i.size
def bagOf : AV → AV
  | .agg l => match packL l with
    | some c => bif Nat.blt 0 (lenL l) then .bag (lenL l) c else .agg l
    | none => .agg l
  | v => v
def zeroT (t : Nat) : Option AV := (infoT P t).bind fun i => i.zero.bind fun v => (ofV v).bind fun v => some (bagOf v)
/-- Is a row of this element a row of bytes? -/
def isB (t : Nat) : Bool := match zeroT P t with
  | some (.bag _ _) => true
  | some (.int .u8 _) => true
  | _ => false
/-- Is it a struct or an array? (none: it isn't known) -/
def isAggT (t : Nat) : Option Bool := (undT P t).bind fun
  | .struct _ => some true
  | .array _ _ => some true
  | _ => some false

/-! ### Rows -/
/-- A row of so many of one value's cells. -/
def repl : Nat → List AV → List AV
  | 0, _ => []
  | n + 1, l => l ++ repl n l
def pack1 : List AV → Option (Nat × Nat)
  | l => (packL l).map fun c => (l.length, c)
def rowB (e : Nat) (room : Bool) (l : List AV) : Option Row := (packL l).bind fun c => some (.bytes e room (lenL l) c)
def rowOf (e : Nat) (room : Bool) (v : AV) : Option Row :=
  match v with
  | .bag n c => some (.bytes e room n c)
  | v => v.cel.bind fun l => bif isB P e then rowB e room l else some (.cells e room l)
def S.new (s : S) (r : Row) : Nat × S := (s.nx, ⟨s.h.set s.nx r, Nat.succ s.nx⟩)
def readRow (r : Row) (o n : Nat) : Option AV :=
  match r with
  | .cells _ _ l => (takeL n (dropL o l)).bind fun x => some (.agg x)
  | .bytes _ _ m c => bif Nat.ble (Nat.add o n) m then some (.bag n (bSub c o n)) else none
  | .dead => none
def readCell (r : Row) (o : Nat) : Option AV :=
  match r with
  | .cells _ _ l => nth l o
  | .bytes _ _ m c => bif Nat.blt o m then some (.int .u8 (.ofNat (bAt c o))) else none
  | .dead => none
/-- The first cells replaced. -/
def setH : List AV → List AV → Option (List AV)
  | [], l => some l
  | _ :: _, [] => none
  | y :: ys, _ :: l => (setH ys l).bind fun r => some (y :: r)
def setL : List AV → Nat → List AV → Option (List AV)
  | l, 0, ys => setH ys l
  | [], _ + 1, _ => none
  | x :: l, o + 1, ys => (setL l o ys).bind fun r => some (x :: r)
def putB (e : Nat) (m : Bool) (n c o k d : Nat) : Option Row := bif Nat.ble (Nat.add o k) n then some (.bytes e m n (bPut n c o k d)) else none
def writeRow (r : Row) (o : Nat) (v : AV) : Option Row :=
  match r with
  | .cells e m l => v.cel.bind fun y => (setL l o y).bind fun l => some (.cells e m l)
  | .bytes e m n c => match v with
    | .bag k d => putB e m n c o k d
    | .int .u8 (.ofNat x) => bif Nat.blt x 256 then putB e m n c o 1 x else none
    | .agg l => (packL l).bind fun d => putB e m n c o (lenL l) d
    | _ => none
  | .dead => none
def loadA (s : S) (t i o : Nat) : Option AV :=
  match s.h.get i with
  | some r => (isAggT P t).bind fun b => bif b then (sizeT P t).bind (readRow r o) else readCell r o
  | none => none
def storeA (s : S) (i o : Nat) (v : AV) : Option S := bif Nat.blt i 1000 then none else (s.h.get i).bind fun r => (writeRow r o v).bind fun r' => some ⟨s.h.set i r', s.nx⟩

/-! ### Operations on values -/
def kNo : IntKind → Nat
  | .i8 => 0 | .i16 => 1 | .i32 => 2 | .i64 => 3 | .u8 => 4 | .u16 => 5 | .u32 => 6 | .u64 => 7
def kMod : IntKind → Nat
  | .i8 => 256 | .i16 => 65536 | .i32 => 4294967296 | .i64 => 18446744073709551616 | .u8 => 256 | .u16 => 65536 | .u32 => 4294967296 | .u64 => 18446744073709551616
/-- From where on a number stands for a negative one. -/
def kHalf : IntKind → Nat
  | .i8 => 128 | .i16 => 32768 | .i32 => 2147483648 | .i64 => 9223372036854775808 | .u8 => 256 | .u16 => 65536 | .u32 => 4294967296 | .u64 => 18446744073709551616
def kBits : IntKind → Nat
  | .i8 => 8 | .i16 => 16 | .i32 => 32 | .i64 => 64 | .u8 => 8 | .u16 => 16 | .u32 => 32 | .u64 => 64
/-- A number as one below m. -/
def uMod (m : Nat) : Int → Nat
  | .ofNat a => Nat.mod a m
  | .negSucc a => Nat.sub m (Nat.succ (Nat.mod a m))
def sMod (m h u : Nat) : Int := bif Nat.ble h u then .negSucc (Nat.sub m (Nat.succ u)) else .ofNat u
def wr (k : IntKind) (n : Int) : AV := .int k (sMod (kMod k) (kHalf k) (uMod (kMod k) n))
def unN (k : IntKind) (n : Int) : Nat := uMod (kMod k) n
def iEq : Int → Int → Bool
  | .ofNat a, .ofNat b => Nat.beq a b
  | .negSucc a, .negSucc b => Nat.beq a b
  | _, _ => false
def iLt : Int → Int → Bool
  | .ofNat a, .ofNat b => Nat.blt a b
  | .negSucc a, .negSucc b => Nat.blt b a
  | .negSucc _, .ofNat _ => true
  | .ofNat _, .negSucc _ => false
def bits2 (g : Nat → Nat → Nat) (k : IntKind) (a b : Int) : Option AV := some (wr k (.ofNat (g (unN k a) (unN k b))))
def cmp1 (b : Bool) : Option AV := some (.bool b)
def divOp (r : Bool) (k : IntKind) (a b : Int) : Option AV := bif iEq b 0 then none else bif r then some (.int k (a.tmod b)) else some (wr k (a.tdiv b))
def intOp (op : BinOp) (k : IntKind) (a b : Int) : Option AV :=
  match op with
  | .add => some (wr k (Int.add a b))
  | .sub => some (wr k (Int.sub a b))
  | .mul => some (wr k (Int.mul a b))
  | .quo => divOp false k a b
  | .rem => divOp true k a b
  | .and => bits2 Nat.land k a b
  | .or => bits2 Nat.lor k a b
  | .xor => bits2 Nat.xor k a b
  | .andNot => bits2 (fun x y => Nat.xor x (Nat.land x y)) k a b
  | .eql => cmp1 (iEq a b)
  | .neq => cmp1 (not (iEq a b))
  | .lss => cmp1 (iLt a b)
  | .leq => cmp1 (not (iLt b a))
  | .gtr => cmp1 (iLt b a)
  | .geq => cmp1 (not (iLt a b))
  | _ => none
def shlI (k : IntKind) (n : Nat) : Int → AV
  | .ofNat a => wr k (.ofNat (Nat.shiftLeft a n))
  | a => wr k (Int.mul a (.ofNat (Nat.pow 2 n)))
def shrI (k : IntKind) (n : Nat) : Int → AV
  | .ofNat a => .int k (.ofNat (Nat.shiftRight a n))
  | .negSucc a => .int k (.negSucc (Nat.shiftRight a n))
def shOp (l : Bool) (k : IntKind) (a b : Int) : Option AV :=
  match b with
  | .negSucc _ => none
  | .ofNat m => let n := bif Nat.ble (kBits k) m then kBits k else m
    bif l then some (shlI k n a) else some (shrI k n a)
def strOp (op : BinOp) (n c m d : Nat) : Option AV :=
  match op with
  | .add => bif Nat.ble (Nat.add n m) 9223372036854775807 then some (.str (Nat.add n m) (bCat n c d)) else none
  | .eql => some (.bool (Nat.beq n m && Nat.beq c d))
  | .neq => some (.bool (!(Nat.beq n m && Nat.beq c d)))
  | .lss => some (.bool (bLess n c m d n 0))
  | .leq => some (.bool (bLess n c m d n 0 || (Nat.beq n m && Nat.beq c d)))
  | .gtr => some (.bool (!(bLess n c m d n 0 || (Nat.beq n m && Nat.beq c d))))
  | .geq => some (.bool (!bLess n c m d n 0))
  | _ => none
def isU8 (e : Nat) : Bool := match undT P e with
  | some (.int .u8) => true
  | _ => false
/-- Arrays of so many bytes, that may be compared. -/
def eqBag (t n e m k : Nat) : Bool := and (isU8 P e) (and (match sizeT P e with
    | some z => Nat.beq z 1
    | none => false) (and (Nat.beq m n) (and (Nat.beq k n) (not (P.eqGuardType P.depth t)))))
def eqA (t : Nat) (a b : AV) : Option Bool :=
  match undT P t, a, b with
  | some .bool, .bool x, .bool y => some (bif x then y else not y)
  | some (.pointer _), .nil, .nil => some true
  | some (.pointer _), .nil, .ptr _ _ => some false
  | some (.pointer _), .ptr _ _, .nil => some false
  | some (.slice _), .slN, .slN => some true
  | some (.slice _), .slN, .sl .. => some false
  | some (.slice _), .sl .., .slN => some false
  | some (.func ..), .nilF, .nilF => some true
  | some (.func ..), .nilF, .fn .. => some false
  | some (.func ..), .fn .., .nilF => some false
  | some (.interface _), .nilI, .ifc .. => some false
  | some (.interface _), .ifc .., .nilI => some false
  | some (.array n e), .bag m c, .bag k d => bif eqBag P t n e m k then some (Nat.beq c d) else none
  | _, _, _ => none
def eqOp (op : BinOp) (t : Nat) (a b : AV) : Option AV := match op with
  | .eql => (eqA P t a b).bind fun x => some (.bool x)
  | .neq => (eqA P t a b).bind fun x => some (.bool (not x))
  | _ => none
def intB (op : BinOp) (k j : IntKind) (x y : Int) : Option AV := match op with
  | .shl => shOp true k x y
  | .shr => shOp false k x y
  | op => bif Nat.beq (kNo k) (kNo j) then intOp op k x y else none
def binA (op : BinOp) (t : Nat) (a b : AV) : Option AV :=
  match a, b with
  | .int k x, .int j y => intB op k j x y
  | .str n c, .str m d => strOp op n c m d
  | a, b => eqOp P op t a b
def unA (op : UnOp) (a : AV) : Option AV :=
  match op, a with
  | .neg, .int k n => some (wr k (Int.neg n))
  | .xor, .int k n => some (wr k (.ofNat (Nat.sub (Nat.pred (kMod k)) (unN k n))))
  | .not, .bool b => some (.bool !b)
  | _, _ => none
def slBytes (s : S) (i o n : Nat) : Option Nat := (s.h.get i).bind fun r => match r with
  | .bytes _ _ m c => bif Nat.ble (Nat.add o n) m then some (bSub c o n) else none
  | _ => none
def ret1 (v : Option AV) (s : S) : R := v.bind fun v => some (v, s)
def ret2 (r : Option Row) (o n : Nat) (c : Cap) (s : S) : R := r.bind fun r => some (.sl s.nx o n c, ⟨s.h.set s.nx r, Nat.succ s.nx⟩)
def retP (r : Option Row) (s : S) : R := r.bind fun r => some (.ptr s.nx 0, ⟨s.h.set s.nx r, Nat.succ s.nx⟩)
def markA (i : Nat) (v : AV) (s : S) : R := bif Nat.blt i 1000 then none else (s.h.get i).bind fun r => match r with
  | .bytes .. => some (v, ⟨s.h.set i r, s.nx⟩)
  | _ => none
def convA (src dst : Nat) (a : AV) (s : S) : R :=
  match undT P src, undT P dst, a with
  | some (.int _), some (.int k), .int _ n => some (wr k n, s)
  | some _, some .string, .str n c => some (.str n c, s)
  | some (.slice e), some .string, .slN => bif isU8 P e then some (.str 0 0, s) else none
  | some (.slice e), some .string, .sl i o n _ => bif isU8 P e then (slBytes s i o n).bind fun x => some (.str n x, s) else none
  | some (.slice _), some (.slice e), .sl i o n c => bif and (isU8 P e) (and (Nat.beq src dst) (Nat.blt 0 n)) then markA i (.sl i o n c) s else none
  | some .string, some (.slice e), .str n c => bif isU8 P e then ret2 (some (.bytes e true n c)) 0 n (.u 1) s else none
  | _, _, _ => none
def natI (a : AV) : Option Nat := match a with
  | .int _ (.ofNat n) => some n
  | _ => none
def slBd (x : Option AV) (y d : Nat) : Option Nat := match x with
  | none => some d
  | some v => (natI v).bind fun n => bif Nat.ble n y then some n else none
def sliceA (t : Nat) (x : AV) (lo hi mx : Option AV) (s : S) : R :=
  match undT P t, x with
  | some .string, .str n c => match mx with
    | none => (slBd hi n n).bind fun h => (slBd lo h 0).bind fun l => some (.str (Nat.sub h l) (bSub c l (Nat.sub h l)), s)
    | some _ => none
  | some (.slice e), .slN => (slBd mx 0 0).bind fun m => (slBd hi m 0).bind fun h => (slBd lo h 0).bind fun _ => (sizeT P e).bind fun _ => bif and mx.isSome hi.isNone then none else some (.slN, s)
  | some (.slice e), .sl i o n (.k c) => (slBd mx c c).bind fun m => (slBd hi m n).bind fun h => (slBd lo h 0).bind fun l => (sizeT P e).bind fun z =>
      bif and mx.isSome hi.isNone then none else some (.sl i (bif Nat.beq m l then o else Nat.add o (Nat.mul l z)) (Nat.sub h l) (.k (Nat.sub m l)), s)
  | some (.slice e), .sl i o n (.u z) => (sizeT P e).bind fun y => bif Nat.beq y z then (match mx with
    | some _ => bif and (Nat.blt 0 n) hi.isSome then (slBd mx n n).bind fun m => (slBd hi m n).bind fun h => (slBd lo h 0).bind fun l =>
      some (.sl i (bif Nat.beq m l then o else Nat.add o (Nat.mul l z)) (Nat.sub h l) (.k (Nat.sub m l)), s) else none
    | none => (slBd hi n n).bind fun h => (slBd lo h 0).bind fun l => some (.sl i (Nat.add o (Nat.mul l z)) (Nat.sub h l) (.u z), s)) else none
  | some (.array n e), .ptr i o => (slBd mx n n).bind fun m => (slBd hi m n).bind fun h => (slBd lo h 0).bind fun l => (sizeT P e).bind fun z =>
      bif and mx.isSome hi.isNone then none else some (.sl i (bif Nat.beq m l then o else Nat.add o (Nat.mul l z)) (Nat.sub h l) (.k (Nat.sub m l)), s)
  | _, _ => none
def indexAddrA (t : Nat) (x ix : AV) : Option AV :=
  match natI ix with
  | none => none
  | some k => match undT P t, x with
    | some (.array n e), .ptr i o => bif Nat.blt k n then (sizeT P e).map fun z => .ptr i (Nat.add o (Nat.mul k z)) else none
    | some (.slice e), .sl i o n _ => bif Nat.blt k n then (sizeT P e).map fun z => .ptr i (Nat.add o (Nat.mul k z)) else none
    | _, _ => none
def normT (t : Nat) (l : List AV) : Option AV := bif isB P t then (packL l).bind fun c => some (.bag (lenL l) c) else some (.agg l)
def partA (t : Nat) (x : AV) (o : Nat) : Option AV :=
  match x with
  | .bag n c => (isAggT P t).bind fun b => bif b then (sizeT P t).bind fun z => bif Nat.ble (Nat.add o z) n then some (.bag z (bSub c o z)) else none else bif Nat.blt o n then some (.int .u8 (.ofNat (bAt c o))) else none
  | .agg l => (isAggT P t).bind fun b => bif b then (sizeT P t).bind fun z => (takeL z (dropL o l)).bind fun x => normT P t x else nth l o
  | _ => none
def indexA (t : Nat) (x ix : AV) : Option AV :=
  match natI ix with
  | none => none
  | some k => match undT P t, x with
    | some (.array n e), x => bif Nat.blt k n then (sizeT P e).bind fun z => partA P e x (Nat.mul k z) else none
    | some .string, .str n c => bif Nat.blt k n then some (.int .u8 (.ofNat (bAt c k))) else none
    | _, _ => none
def fieldAt (t f : Nat) : Option Field := match undT P t with
  | some (.struct fs) => fs[f]?
  | _ => none
def fillA : List (Nat × AV) → (Nat → Option (Nat × Nat)) → List AV → Option (List AV)
  | [], _, z => some z
  | (i, v) :: l, pl, z => (pl i).bind fun (o, k) => v.cel.bind fun y => bif Nat.beq (lenL y) k then (setL z o y).bind (fillA l pl) else none
def plS : List Field → Option (List (Nat × Nat))
  | [] => some []
  | f :: l => (sizeT P f.type).bind fun z => (plS l).bind fun r => some ((f.offset, z) :: r)
def buildA (t : Nat) (ps : List (Nat × AV)) : Option AV :=
  (zeroT P t).bind fun z => match undT P t with
    | some (.struct fs) => (plS P fs.toList).bind fun pl => z.cel.bind fun c => (fillA ps (nth pl) c).bind (normT P t)
    | some (.array _ e) => (sizeT P e).bind fun sz => match ps, z with
      | [], .bag n c => some (.bag n c)
      | ps, z => z.cel.bind fun c => (fillA ps (fun i => some (Nat.mul i sz, sz)) c).bind (normT P t)
    | _ => none
/-- Has the zero of this type as many cells as the type? -/
def okZ (e : Nat) : Bool := match zeroT P e, sizeT P e with
  | some z, some n => and z.cel.isSome (Nat.beq z.cnt n)
  | _, _ => false
def buildSliceA (t n : Nat) (ps : List (Nat × AV)) (s : S) : R :=
  match undT P t with
  | some (.slice e) => (zeroT P e).bind fun z => z.cel.bind fun z => (sizeT P e).bind fun sz => bif and (okZ P e) (Nat.ble (Nat.mul n sz) 16777216) then (fillA ps (fun i => some (Nat.mul i sz, sz)) (repl n z)).bind fun l =>
      ret2 (rowOf P e false (.agg l)) 0 n (.k n) s else none
  | _ => none
def zerosT (e k : Nat) : Option AV := (zeroT P e).bind fun z => match z with
  | .bag n c => bif Nat.beq c 0 then some (.bag (Nat.mul k n) 0) else none
  | .int .u8 x => bif iEq x 0 then some (.bag k 0) else none
  | z => z.cel.bind fun z => some (.agg (repl k z))
def zeroRow (e k : Nat) : Option Row := (zerosT P e k).bind (rowOf P e false)
def fits (e k : Nat) : Bool := match infoT P e with
  | some i => Nat.ble (Nat.mul i.bytes k) 140737488355328
  | none => false
def makeSliceA (t : Nat) (n c : AV) (s : S) : R :=
  match undT P t with
  | some (.slice e) => (natI n).bind fun n => (natI c).bind fun c => bif and (Nat.ble n c) (and (fits P e c) (and (okZ P e) (Nat.ble c 140737488355328))) then ret2 (zeroRow P e c) 0 n (.k c) s else none
  | _ => none
/-- The cells of what is appended or copied. -/
def srcA (s : S) (x : AV) (z k : Nat) : Option AV :=
  match x with
  | .str n c => bif Nat.ble k n then some (.bag k (bSub c 0 k)) else none
  | .slN => bif Nat.beq k 0 then some (.agg []) else none
  | .sl i o n _ => bif Nat.ble k n then (s.h.get i).bind fun r => readRow r o (Nat.mul k z) else none
  | _ => none
def lenA (x : AV) : Option Nat := match x with
  | .str n _ => some n
  | .slN => some 0
  | .sl _ _ n _ => some n
  | _ => none
def catRow (e : Nat) (r : Row) (o n : Nat) (v : AV) : Option Row :=
  (readRow r o n).bind fun x => match x, v with
  | .bag a c, .bag b d => some (.bytes e true (Nat.add a b) (bCat a c d))
  | .agg a, .agg b => some (.cells e true (a ++ b))
  | _, _ => none
/-- So many elements (v: their cells) behind a slice. -/
def rowEnd (r : Row) (k : Nat) : Bool := match r with
  | .cells _ _ l => Nat.beq k (lenL l)
  | .bytes _ _ m _ => Nat.beq k m
  | .dead => false
def rowElem : Row → Nat
  | .cells e _ _ => e
  | .bytes e _ _ _ => e
  | .dead => 0
/-- What an append that grows must know. -/
def appC (e z n k : Nat) (v : AV) : Bool := and (okZ P e) (and (Nat.beq v.cnt (Nat.mul k z)) (Nat.ble (Nat.add n k) 140737488355328))
def appendV (e z : Nat) (a : AV) (k : Nat) (v : AV) (s : S) : R :=
  match a with
  | .slN => bif appC P e z 0 k v then ret2 (rowOf P e true v) 0 k (.u z) s else none
  | .sl i o n (.k c) =>
    bif Nat.ble (Nat.add n k) c then (storeA s i (Nat.add o (Nat.mul n z)) v).bind fun s => some (.sl i o (Nat.add n k) (.k c), s)
    else bif appC P e z n k v then (s.h.get i).bind fun r => ret2 (catRow e r o (Nat.mul n z) v) 0 (Nat.add n k) (.u z) s else none
  | .sl i o n (.u y) => bif appC P e z n k v then (s.h.get i).bind fun r =>
      bif and (not (Nat.blt i 1000)) (and (rowEnd r (Nat.add o (Nat.mul n z))) (Nat.beq y z))
      then ret2 (catRow e r o (Nat.mul n z) v) 0 (Nat.add n k) (.u z) ⟨s.h.set i .dead, s.nx⟩
      else none else none
  | _ => none
def sl0 (a : AV) : Option AV := match a with
  | .slN => some .slN
  | .sl i o n c => some (.sl i o n c)
  | _ => none
def appendA (t : Nat) (a x : AV) (s : S) : R :=
  match undT P t with
  | some (.slice e) => (sizeT P e).bind fun z => (lenA x).bind fun k => bif Nat.beq k 0 then (sl0 a).bind fun a => some (a, s) else (lenA a).bind fun m => bif fits P e (Nat.add m k) then (srcA s x z k).bind fun v => appendV P e z a k v s else none
  | _ => none
/-- So many zeros behind a slice. -/
def appendZ (t : Nat) (a x : AV) (s : S) : R :=
  match undT P t with
  | some (.slice e) => (sizeT P e).bind fun z => (natI x).bind fun k => bif Nat.beq k 0 then (sl0 a).bind fun a => some (a, s) else (lenA a).bind fun m => bif and (fits P e (Nat.add m k)) (Nat.ble k 140737488355328) then (zerosT P e k).bind fun v => bif Nat.beq v.cnt (Nat.mul k z) then appendV P e z a k v s else none else none
  | _ => none
def copyA (t : Nat) (a x : AV) (s : S) : R :=
  match undT P t with
  | some (.slice e) => (sizeT P e).bind fun z => (lenA x).bind fun k => match a with
    | .slN => some (.int .i64 (.ofNat 0), s)
    | .sl i o n _ => bif Nat.beq (bif Nat.ble k n then k else n) 0 then some (.int .i64 (.ofNat 0), s) else
      (srcA s x z (bif Nat.ble k n then k else n)).bind fun v => (storeA s i o v).bind fun s => some (.int .i64 (.ofNat (bif Nat.ble k n then k else n)), s)
    | _ => none
  | _ => none
def minI (a b : AV) : Option AV := match a, b with
  | .int k x, .int _ y => some (.int k (bif iLt y x then y else x))
  | _, _ => none
def maxI (a b : AV) : Option AV := match a, b with
  | .int k x, .int _ y => some (.int k (bif iLt x y then y else x))
  | _, _ => none
def foldI (g : AV → AV → Option AV) : List AV → AV → Option AV
  | [], a => some a
  | b :: l, a => (g a b).bind fun c => foldI g l c
def lenB (t : Nat) (x : AV) (s : S) : R := match undT P t, x with
  | some .string, .str n _ => some (.int .i64 (.ofNat n), s)
  | some (.array n _), _ => some (.int .i64 (.ofNat n), s)
  | some (.slice _), .slN => some (.int .i64 (.ofNat 0), s)
  | some (.slice _), .sl _ _ n _ => some (.int .i64 (.ofNat n), s)
  | _, _ => none
def capB (t : Nat) (x : AV) (s : S) : R := match undT P t, x with
  | some (.slice _), .slN => some (.int .i64 (.ofNat 0), s)
  | some (.slice _), .sl _ _ _ (.k c) => some (.int .i64 (.ofNat c), s)
  | _, _ => none
def builtinA (b : Builtin) (ts : List Nat) (args : List AV) (s : S) : R :=
  match b with
  | .len => match ts, args with
    | t :: _, [x] => lenB P t x s
    | _, _ => none
  | .cap => match ts, args with
    | t :: _, [x] => capB P t x s
    | _, _ => none
  | .append => match ts, args with
    | t :: u :: _, [a, x] => match undT P u with
      | some (.string) => appendA P t a x s
      | some (.slice _) => appendA P t a x s
      | some (.int _) => appendZ P t a x s
      | _ => none
    | _, _ => none
  | .copy => match ts, args with
    | t :: _, [a, x] => copyA P t a x s
    | _, _ => none
  | .min => match args with
    | a :: l => ret1 (foldI minI l a) s
    | _ => none
  | .max => match args with
    | a :: l => ret1 (foldI maxI l a) s
    | _ => none
  | _ => none

/-! ### Operations of a region -/
abbrev F := T AV
def opdK : Operand → F → Option AV := Operand.rec (motive := fun _ => F → Option AV) (fun t f => f.get t) (fun v _ => ofV v) (fun g _ => bif Nat.blt g 1000 then some (.ptr g 0) else none) (fun k _ => some (.fn k [] []))
def opd (f : F) (x : Operand) : Option AV := opdK x f
def opds (f : F) : List Operand → Option (List AV)
  | [] => some []
  | x :: l => (opd f x).bind fun a => (opds f l).map fun as => a :: as
def opdsP (f : F) : List (Nat × Operand) → Option (List (Nat × AV))
  | [] => some []
  | (i, x) :: l => (opd f x).bind fun a => (opdsP f l).map fun as => (i, a) :: as
def opdO (f : F) : Option Operand → Option (Option AV)
  | none => some none
  | some x => (opd f x).map some
def oPick (f : F) (s : S) (c a b : Operand) : R := (opd f c).bind fun
    | .bool true => ret1 (opd f a) s
    | .bool false => ret1 (opd f b) s
    | _ => none
def oAlloc (s : S) (e : Nat) : R := (zeroT P e).bind fun z => retP (rowOf P e false z) s
def oBox (f : F) (s : S) (e : Nat) (x : Operand) : R := (opd f x).bind fun v => retP (rowOf P e false v) s
def oBuild (f : F) (s : S) (t : Nat) (ps : Array (Nat × Operand)) : R := (opdsP f ps.toList).bind fun l => ret1 (buildA P t l) s
def oBuildSlice (f : F) (s : S) (t n : Nat) (ps : Array (Nat × Operand)) : R := (opdsP f ps.toList).bind fun l => buildSliceA P t n l s
def oLoad (f : F) (s : S) (t : Nat) (x : Operand) : R := (opd f x).bind fun
    | .ptr i o => ret1 (loadA P s t i o) s
    | _ => none
def oStore (f : F) (s : S) (t : Nat) (x y : Operand) : R := (opd f x).bind fun
    | .ptr i o => (opd f y).bind fun v => (sizeT P t).bind fun z => bif Nat.beq v.cnt z then (storeA s i o v).bind fun s => some (.undef, s) else none
    | _ => none
def oNil (f : F) (s : S) (x : Operand) : R := (opd f x).bind fun
    | .ptr i o => some (.ptr i o, s)
    | .fn a b c => some (.fn a b c, s)
    | _ => none
def oBin (f : F) (s : S) (op : BinOp) (t : Nat) (x y : Operand) : R := (opd f x).bind fun a => (opd f y).bind fun b => ret1 (binA P op t a b) s
def oUn (f : F) (s : S) (op : UnOp) (x : Operand) : R := (opd f x).bind fun a => ret1 (unA op a) s
def oConv (f : F) (s : S) (a b : Nat) (x : Operand) : R := (opd f x).bind fun v => convA P a b v s
def oMakeFunc (f : F) (s : S) (fn : Fn) (first cap : Array Operand) : R := match fn with
  | .func k => (opds f first.toList).bind fun l => (opds f cap.toList).bind fun m => some (.fn k l m, s)
  | _ => none
def oIface (f : F) (s : S) (t : Nat) (x : Operand) : R := (opd f x).bind fun v => (undT P t).bind fun
  | .interface _ => none
  | _ => bif v.one then some (.ifc t v, s) else none
def oMakeSlice (f : F) (s : S) (t : Nat) (n c : Operand) : R := (opd f n).bind fun n => (opd f c).bind fun c => makeSliceA P t n c s
def oSlice (f : F) (s : S) (t : Nat) (x : Operand) (lo hi mx : Option Operand) : R := (opd f x).bind fun x => (opdO f lo).bind fun lo => (opdO f hi).bind fun hi => (opdO f mx).bind fun mx => sliceA P t x lo hi mx s
def oFieldAddr (f : F) (s : S) (t : Nat) (x : Operand) (k : Nat) : R := (opd f x).bind fun
    | .ptr i o => (fieldAt P t k).bind fun fd => (sizeT P fd.type).bind fun z => bif Nat.beq z 0 then none else some (.ptr i (Nat.add o fd.offset), s)
    | _ => none
def oField (f : F) (s : S) (t : Nat) (x : Operand) (k : Nat) : R := (opd f x).bind fun v => (fieldAt P t k).bind fun fd => ret1 (partA P fd.type v fd.offset) s
def oIndexAddr (f : F) (s : S) (t : Nat) (x i : Operand) : R := (opd f x).bind fun x => (opd f i).bind fun i => ret1 (indexAddrA P t x i) s
def oIndex (f : F) (s : S) (t : Nat) (x i : Operand) : R := (opd f x).bind fun x => (opd f i).bind fun i => ret1 (indexA P t x i) s
def oExtract (f : F) (s : S) (x : Operand) (i : Nat) : R := (opd f x).bind fun
    | .tup l => ret1 (nth l i) s
    | _ => none
def oCall (f : F) (s : S) (c : Call) : R := match c.callee with
    | .builtin b => (opds f c.args.toList).bind fun l => builtinA P b c.argTypes.toList l s
    | _ => none
end
noncomputable section
def opK : Op → Program → F → S → R := Op.rec (motive := fun _ => Program → F → S → R) (fun x P f s => ret1 (opd f x) s) (fun x P f s => ret1 (opd f x) s) (fun c a b P f s => oPick f s c a b) (fun e P f s => oAlloc P s e) (fun e x P f s => oBox P f s e x) (fun t ps P f s => oBuild P f s t ps) (fun t n ps P f s => oBuildSlice P f s t n ps) (fun _ _ _ _ _ _ _ => none) (fun t x P f s => oLoad P f s t x) (fun t x y P f s => oStore P f s t x y) (fun _ _ _ _ => none) (fun _ _ _ _ => none) (fun x P f s => oNil f s x) (fun op t x y _ P f s => oBin P f s op t x y) (fun op _ x P f s => oUn f s op x) (fun a b x P f s => oConv P f s a b x) (fun _ _ _ _ _ => none) (fun t x P f s => oIface P f s t x) (fun fn a b P f s => oMakeFunc f s fn a b) (fun _ _ _ _ _ => none) (fun _ _ _ _ _ => none) (fun t n c P f s => oMakeSlice P f s t n c) (fun t x lo hi mx P f s => oSlice P f s t x lo hi mx) (fun t x k P f s => oFieldAddr P f s t x k) (fun t x k P f s => oField P f s t x k) (fun t x i P f s => oIndexAddr P f s t x i) (fun t x i P f s => oIndex P f s t x i) (fun _ _ _ _ _ _ _ => none) (fun _ _ _ _ _ _ _ => none) (fun _ _ _ _ _ _ => none) (fun _ _ _ _ _ _ _ => none) (fun _ _ _ _ _ => none) (fun _ _ _ _ _ => none) (fun _ _ _ _ => none) (fun _ _ _ _ _ _ _ => none) (fun x i P f s => oExtract f s x i) (fun c P f s => oCall P f s c) (fun _ _ _ _ => none) (fun _ _ _ _ => none) (fun _ _ _ _ => none) (fun _ _ _ _ _ => none) (fun _ _ _ _ _ _ => none) (fun _ _ _ _ _ => none)
variable (P : Program)
def opA (f : F) (s : S) (o : Op) : R := opK o P f s
def isCall : Op → Bool := Op.rec (motive := fun _ => Bool) (fun _ => false) (fun _ => false) (fun _ _ _ => false) (fun _ => false) (fun _ _ => false) (fun _ _ => false) (fun _ _ _ => false) (fun _ _ _ _ => false) (fun _ _ => false) (fun _ _ _ => false) (fun _ => false) (fun _ => false) (fun _ => false) (fun _ _ _ _ _ => false) (fun _ _ _ => false) (fun _ _ _ => false) (fun _ _ => false) (fun _ _ => false) (fun _ _ _ => false) (fun _ _ => false) (fun _ _ => false) (fun _ _ _ => false) (fun _ _ _ _ _ => false) (fun _ _ _ => false) (fun _ _ _ => false) (fun _ _ _ => false) (fun _ _ _ => false) (fun _ _ _ _ => false) (fun _ _ _ _ => false) (fun _ _ _ => false) (fun _ _ _ _ => false) (fun _ _ => false) (fun _ _ => false) (fun _ => false) (fun _ _ _ _ => false) (fun _ _ => false) (fun c => Callee.rec (motive := fun _ => Bool) (fun _ => true) (fun _ _ => true) (fun _ => false) c.callee) (fun _ => false) (fun _ => false) (fun _ => false) (fun _ _ => false) (fun _ _ _ => false) (fun _ _ => false)
def methA (t : Nat) (name : String) : Option Nat := (infoT P t).bind fun i => (i.methods.toList.find? (fun m => m.name == name)).bind fun m => match m.path.toList, m.func, undT P t with
  | [], some (f, true), some (.pointer _) => some f
  | _, _, _ => none
def callA (f : F) (o : Op) : Option (Nat × List AV) :=
  match o with
  | .call c => match c.callee with
    | .value x => (opd f x).bind fun
      | .fn k first cap => (opds f c.args.toList).map fun l => (k, first ++ (l ++ cap))
      | _ => none
    | .invoke x name => (opd f x).bind fun
      | .ifc t v => (methA P t name).bind fun k => (opds f c.args.toList).map fun l => (k, v :: l)
      | _ => none
    | _ => none
  | _ => none
/-! ### How an operation stands to memory -/
/-- What a new row's address is. -/
inductive NK where
  | ptr
  | sl (n c : Nat)
def NK.av : NK → Nat → AV
  | .ptr, i => .ptr i 0
  | .sl n c, i => .sl i 0 n (.k c)
def nkOf : AV → Option NK
  | .ptr _ _ => some .ptr
  | .sl _ _ n (.k c) => some (.sl n c)
  | _ => none
inductive OK where
  | quiet
  | load
  | new
  | eff
def quietB (b : Builtin) : Bool := match b with
  | .len => true
  | .cap => true
  | .min => true
  | .max => true
  | _ => false
def quietC (s d : Nat) : Bool := match undT P s, undT P d with
  | some (.int _), some (.int _) => true
  | _, _ => false
def kindO (q : Op) : OK := match q with
  | .move _ | .assign _ | .pick _ _ _ | .build _ _ | .nilCheck _ | .binOp _ _ _ _ _ | .unOp _ _ _ | .makeInterface _ _ | .makeFunc _ _ _ | .slice _ _ _ _ _ | .fieldAddr _ _ _ | .field _ _ _ | .indexAddr _ _ _ | .index _ _ _ | .extract _ _ => .quiet
  | .load _ _ => .load
  | .alloc _ | .box _ _ | .buildSlice _ _ _ | .makeSlice _ _ _ => .new
  | .convert p q _ => bif quietC P p q then .quiet else .eff
  | .call c => match c.callee with
    | .builtin b => bif quietB b then .quiet else .eff
    | _ => .eff
  | _ => .eff
/-! ### The same value? -/
def eqCap : Cap → Cap → Bool
  | .k a, .k b => Nat.beq a b
  | .u a, .u b => Nat.beq a b
  | _, _ => false
def eqA1 (a b : AV) : Bool := match a, b with
  | .bool x, .bool y => bif x then y else not y
  | .int k x, .int j y => and (Nat.beq (kNo k) (kNo j)) (iEq x y)
  | .str n c, .str m d => and (Nat.beq n m) (Nat.beq c d)
  | .nil, .nil => true
  | .ptr i o, .ptr j p => and (Nat.beq i j) (Nat.beq o p)
  | .slN, .slN => true
  | .sl i o n c, .sl j p m d => and (Nat.beq i j) (and (Nat.beq o p) (and (Nat.beq n m) (eqCap c d)))
  | .nilF, .nilF => true
  | .bag n c, .bag m d => and (Nat.beq n m) (Nat.beq c d)
  | .nilI, .nilI => true
  | _, _ => false
def eqAL : List AV → List AV → Bool
  | [], [] => true
  | x :: l, y :: m => and (eqA1 x y) (eqAL l m)
  | _, _ => false
def eqAV (a b : AV) : Bool := match a, b with
  | .agg l, .agg m => eqAL l m
  | .fn k f c, .fn j g d => and (Nat.beq k j) (and (eqAL f g) (eqAL c d))
  | .ifc t x, .ifc u y => and (Nat.beq t u) (eqA1 x y)
  | a, b => eqA1 a b
/-! ### Code -/
inductive Ex where
  | norm
  | exit (i : Nat)
  | ret
abbrev RC := Option (Ex × F × S)
def putD (N : Nat) (f : F) (d : Option Nat) (v : AV) : Option F := match d with
  | some d => bif Nat.blt d N then some (f.set d v) else none
  | none => some f
def dstAt (l : List Oper) (j : Nat) : Option Nat := (nth l j).bind fun o => o.dst
def wantA (l : List Oper) (f : F) (g : Option (Nat × Bool)) : Option Bool := match g with
  | none => some true
  | some (j, b) => (dstAt l j).bind fun d => match f.get d with
    | some (.bool c) => some (bif c then b else not b)
    | some .undef => some false
    | _ => none
/-- The operations of a region, in the order of the text. -/
def opR (call : Nat → List AV → S → R) (f : F) (s : S) (o : Op) : R := bif isCall o then (callA P f o).bind fun (k, l) => call k l s else opA P f s o
def step1 (call : Nat → List AV → S → R) (N : Nat) (ops : List Oper) (o : Oper) (f : F) (s : S) : Option (F × S) := (wantA ops f o.guard).bind fun w => bif w then
      (opR P call f s o.op).bind fun (r, s) => (putD N f o.dst r).bind fun f => some (f, s)
    else (putD N f o.dst .undef).bind fun f => some (f, s)
def seqA (call : Nat → List AV → S → R) (N : Nat) (ops l : List Oper) : F → S → Option (F × S) :=
  List.rec (motive := fun _ => F → S → Option (F × S)) (fun f s => some (f, s)) (fun o _ ih f s => (step1 P call N ops o f s).bind fun (f, s) => ih f s) l
/-! ### Regions that draw their order -/
def bit (m j : Nat) : Bool := Nat.beq (Nat.mod (Nat.shiftRight m j) 2) 1
def bindsA (e : Edge) : Bool := match e.ground with
  | .textOnly _ => false
  | .gcOnly _ => false
  | _ => true
/-- Whom one waits for: by itself, and through others. -/
def edgeD : List Edge → Nat
  | [] => 0
  | e :: l => bif bindsA e then Nat.lor (Nat.shiftLeft 1 e.on) (edgeD l) else edgeD l
def edgeM (ws : List Nat) : List Edge → Nat
  | [] => 0
  | e :: l => bif bindsA e then Nat.lor (Nat.lor (Nat.shiftLeft 1 e.on) ((nth ws e.on).getD 0)) (edgeM ws l) else edgeM ws l
def masksG : List Oper → List Nat → List Nat
  | [], ws => ws
  | o :: l, ws => masksG l (ws ++ [edgeM ws o.after.toList])
def masks (l : List Oper) : List Nat := masksG l []
/-- The operands; none where an operation is none of ours. -/
def callL (c : Call) : List Operand := match c.callee with
  | .value f => f :: c.args.toList
  | .invoke r _ => r :: c.args.toList
  | .builtin _ => c.args.toList
def oList : Option Operand → List Operand
  | some x => [x]
  | none => []
def operL (q : Op) : Option (List Operand) := match q with
  | .alloc _ => some []
  | .move x | .assign x | .box _ x | .load _ x | .nilCheck x | .unOp _ _ x | .convert _ _ x | .makeInterface _ x | .fieldAddr _ x _ | .field _ x _ | .extract x _ => some [x]
  | .pick c a b => some [c, a, b]
  | .build _ ps | .buildSlice _ _ ps => some (ps.toList.map (·.2))
  | .store _ a v | .binOp _ _ a v _ | .makeSlice _ a v | .indexAddr _ a v | .index _ a v => some [a, v]
  | .makeFunc _ f c => some (f.toList ++ c.toList)
  | .slice _ x l h m => some (x :: (oList l ++ (oList h ++ oList m)))
  | .call c => some (callL c)
  | _ => none
def tmpL : List Operand → List Nat
  | [] => []
  | .tmp t :: l => t :: tmpL l
  | _ :: l => tmpL l
def looksL (ops : List Oper) (o : Oper) : Option (List Nat) := (operL o.op).bind fun l => match o.guard with
  | none => some (tmpL l)
  | some (g, _) => match dstAt ops g with
    | some d => some (d :: tmpL l)
    | none => some (tmpL l)
def isD (o : Oper) (t : Nat) : Bool := match o.dst with
  | some d => Nat.beq d t
  | none => false
def zipM : List Oper → List Nat → List (Oper × Nat)
  | o :: l, m :: ms => (o, m) :: zipM l ms
  | _, _ => []
def chkJ (t i dm : Nat) : List (Oper × Nat) → Nat → Bool
  | [], _ => true
  | (p, m) :: l, j => and (bif isD p t then (bif Nat.blt j i then bit dm j else and (Nat.blt i j) (bit m i)) else true) (chkJ t i dm l (Nat.succ j))
def allJ (ops : List (Oper × Nat)) (i dm : Nat) : List Nat → Bool
  | [] => true
  | t :: l => and (chkJ t i dm ops 0) (allJ ops i dm l)
def backB (i : Nat) : List Edge → Bool
  | [] => true
  | e :: l => and (bif bindsA e then Nat.blt e.on i else true) (backB i l)
def noD (t : Nat) : List Oper → Bool
  | [] => true
  | p :: l => and (not (isD p t)) (noD t l)
def chkI (ops : List Oper) (zs : List (Oper × Nat)) (Nt : Nat) : List Oper → Nat → Bool
  | [], _ => true
  | o :: l, i => and (backB i o.after.toList) (and (match looksL ops o with
    | some ts => allJ zs i (edgeD o.after.toList) ts
    | none => false) (and (match o.dst with
    | some d => and (Nat.blt d Nt) (noD d l)
    | none => true) (chkI ops zs Nt l (Nat.succ i))))
def regB (Nt : Nat) (ops : List Oper) : Bool := chkI ops (zipM ops (masks ops)) Nt ops 0
inductive Kd where
  | quiet
  | load
  | new (row : Row) (k : NK)
  | eff (H : T Row)
/-- An operation, as the evaluator came by it. -/
structure Rc where
  o : Oper
  m : Nat
  f : F
  s : S
  nf : Nat
  pd : List (Nat × (Nat × Row))
  av : AV
  k : Kd
  wt : Bool
def mgH (m : Nat) : List (Nat × (Nat × Row)) → T Row → T Row
  | [], h => h
  | (j, (i, r)) :: l, h => mgH m l (bif bit m j then h.set i r else h)
def mgP (m : Nat) : List (Nat × (Nat × Row)) → List (Nat × (Nat × Row))
  | [] => []
  | x :: l => bif bit m x.1 then mgP m l else x :: mgP m l
def mgA : List (Nat × (Nat × Row)) → T Row → T Row
  | [], h => h
  | (_, (i, r)) :: l, h => mgA l (h.set i r)
abbrev Fin3 := F × S × Nat × List (Nat × (Nat × Row))
def newO (f : F) (o : Op) : Option (Row × NK) := (opA P f ⟨.N .E none .E, 0⟩ o).bind fun (r, s) => (s.h.get 0).bind fun row => (nkOf r).bind fun k => some (row, k)
def runD (call : Nat → List AV → S → R) (Nt : Nat) (ops : List Oper) : List (Oper × Nat) → Nat → F → S → Nat → List (Nat × (Nat × Row)) → Option (List Rc × Fin3)
  | [], _, f, s, nf, pd => some ([], (f, s, nf, pd))
  | (o, m) :: l, i, f, s, nf, pd => (wantA ops f o.guard).bind fun w => bif w then
      match kindO P o.op with
      | .quiet => (opA P f s o.op).bind fun (r, _) => (putD Nt f o.dst r).bind fun f' => (runD call Nt ops l (Nat.succ i) f' s nf pd).bind fun (rs, e) => some (⟨o, m, f, s, nf, pd, r, .quiet, true⟩ :: rs, e)
      | .load => (opA P f s o.op).bind fun (r, _) => (putD Nt f o.dst r).bind fun f' => (runD call Nt ops l (Nat.succ i) f' s nf pd).bind fun (rs, e) => some (⟨o, m, f, s, nf, pd, r, .load, true⟩ :: rs, e)
      | .new => (newO P f o.op).bind fun (row, k) => (putD Nt f o.dst (k.av nf)).bind fun f' => (runD call Nt ops l (Nat.succ i) f' s (Nat.succ nf) ((i, (nf, row)) :: pd)).bind fun (rs, e) => some (⟨o, m, f, s, nf, pd, k.av nf, .new row k, true⟩ :: rs, e)
      | .eff => (opR P call f ⟨mgH m pd s.h, s.nx⟩ o.op).bind fun (r, s') => bif not (Nat.ble s.nx s'.nx) then none else (putD Nt f o.dst r).bind fun f' => (runD call Nt ops l (Nat.succ i) f' s' nf (mgP m pd)).bind fun (rs, e) => some (⟨o, m, f, s, nf, pd, r, .eff (mgH m pd s.h), true⟩ :: rs, e)
    else (putD Nt f o.dst .undef).bind fun f' => (runD call Nt ops l (Nat.succ i) f' s nf pd).bind fun (rs, e) => some (⟨o, m, f, s, nf, pd, .undef, .quiet, false⟩ :: rs, e)
def cntN : List Oper → Nat
  | [] => 0
  | o :: l => match kindO P o.op with
    | .new => Nat.succ (cntN l)
    | _ => cntN l
/-- Those with effects: which, whom they wait for, memory behind them. -/
def nextH (e : T Row) : List Rc → T Row
  | [] => e
  | r :: _ => r.s.h
def effsL (e : T Row) : List Rc → Nat → List (Nat × (Nat × T Row))
  | [], _ => []
  | r :: l, i => match r.k with
    | .eff _ => (i, (r.m, nextH e l)) :: effsL e l (Nat.succ i)
    | _ => effsL e l (Nat.succ i)
def allBit (c : Nat) : List (Nat × (Nat × T Row)) → Bool
  | [] => true
  | x :: l => and (bit x.2.1 c) (allBit c l)
def chainE : List (Nat × (Nat × T Row)) → Bool
  | [] => true
  | x :: l => and (allBit x.1 l) (chainE l)
/-- May a load come where so much is done? -/
def admB (i m κ : Nat) : List (Nat × (Nat × T Row)) → Bool
  | [] => true
  | x :: l => and (bif bit m x.1 then Nat.blt x.1 κ else true) (and (bif Nat.blt x.1 κ then not (bit x.2.1 i) else true) (admB i m κ l))
def load1 (r : Rc) (h : T Row) : Bool := match opA P r.f ⟨h, 0⟩ r.o.op with
  | some (v, _) => eqAV v r.av
  | none => false
def loadE (E : List (Nat × (Nat × T Row))) (i : Nat) (r : Rc) : List (Nat × (Nat × T Row)) → Bool
  | [] => true
  | x :: l => and (bif admB i r.m (Nat.succ x.1) E then load1 P r x.2.2 else true) (loadE E i r l)
def loadsB (E : List (Nat × (Nat × T Row))) (h0 : T Row) : List Rc → Nat → Bool
  | [], _ => true
  | r :: l, i => and (match r.k with
    | .load => and (bif admB i r.m 0 E then load1 P r h0 else true) (loadE P E i r E)
    | _ => true) (loadsB E h0 l (Nat.succ i))
def seqD (call : Nat → List AV → S → R) (Nt : Nat) (ops : List Oper) (f : F) (s : S) : Option (F × S) :=
  bif regB Nt ops then (runD P call Nt ops (zipM ops (masks ops)) 0 f ⟨s.h, Nat.add s.nx (cntN P ops)⟩ s.nx []).bind fun (rs, (f', (s', (nf, pd)))) =>
    bif and (Nat.ble nf (Nat.add s.nx (cntN P ops))) (and (chainE (effsL s'.h rs 0)) (loadsB P (effsL s'.h rs 0) s.h rs 0)) then some (f', ⟨mgA pd s'.h, s'.nx⟩) else none
  else none
def argsF : List AV → Nat → F → F
  | [], _, f => f
  | a :: l, i, f => argsF l (Nat.succ i) (f.set i a)
def resA (f : F) (s : S) : List ResultVar → Option (List AV)
  | [] => some []
  | .tmp t :: l => (f.get t).bind fun v => (resA f s l).map (v :: ·)
  | .cell a t :: l => match f.get a with
    | some (.ptr i o) => (loadA P s t i o).bind fun v => (resA f s l).map (v :: ·)
    | _ => none
def wrapR (l : List AV) : AV := match l with
  | [v] => v
  | l => .tup l
/-- One step down of the code. -/
def stepC (rec : Code → F → S → RC) (call : Nat → List AV → S → R) (N : Nat) (c : Code) (f : F) (s : S) : RC :=
  match c with
  | .skip => some (.norm, f, s)
  | .label _ => some (.norm, f, s)
  | .region _ ops d => bif d then (seqD P call N ops.toList f s).bind fun (f, s) => some (.norm, f, s) else (seqA P call N ops.toList ops.toList f s).bind fun (f, s) => some (.norm, f, s)
  | .seq a b => (rec a f s).bind fun (e, f, s) => match e with
    | .norm => rec b f s
    | e => some (e, f, s)
  | .cond x a b => (opd f x).bind fun
    | .bool t => bif t then rec a f s else rec b f s
    | _ => none
  | .block i b => (rec b f s).bind fun (e, f, s) => match e with
    | .exit j => bif Nat.beq i j then some (.norm, f, s) else some (.exit j, f, s)
    | e => some (e, f, s)
  | .loop b => (rec b f s).bind fun (e, f, s) => match e with
    | .norm => rec (.loop b) f s
    | e => some (e, f, s)
  | .scope b => rec b f s
  | .exit i => some (.exit i, f, s)
  | .ret => some (.ret, f, s)
  | _ => none
/-- A call: by what is known of it ('sm'), or by its code. -/
def callS (sm : Nat → List AV → S → R) (rec : Nat → Code → F → S → RC) (k : Nat) (args : List AV) (s : S) : R :=
  match sm k args s with
  | some r => some r
  | none => (nth P.funcs.toList k).bind fun fn => fn.body.bind fun b => bif Nat.ble (lenL args) fn.ntmps then (rec fn.ntmps b (argsF args 0 (T.full 9)) s).bind fun (e, f, s) => match e with
    | .exit _ => none
    | _ => (resA P f s fn.results.toList).bind fun l => some (wrapR l, s)
    else none
/-- The evaluator. -/
def run (sm : Nat → List AV → S → R) (n : Nat) : Nat → Code → F → S → RC :=
  Nat.rec (motive := fun _ => Nat → Code → F → S → RC) (fun _ _ _ _ => none) (fun _ ih N => stepC P (ih N) (callS P sm ih) N) n
def ev (sm : Nat → List AV → S → R) (n k : Nat) (args : List AV) (s : S) : R := callS P sm (run P sm n) k args s
/-- Nothing is known beside the code. -/
def sm0 : Nat → List AV → S → R := fun _ _ _ => none
end
end Go.Ev
