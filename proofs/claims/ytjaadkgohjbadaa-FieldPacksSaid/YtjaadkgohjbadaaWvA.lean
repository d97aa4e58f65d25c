/- The evaluator 'Go.Weave': Go functions as plain Lean over values that are trees (slices are lists), with managed objects for what escapes. -/
import GoSem.Step
import Derived.Calls
import Derived.Orders
import Derived.KernelRfl
namespace Go.Weave

/-- A value, as data. -/
inductive AVal where
  | undef
  | bool (b : Bool)
  | int (k : IntKind) (n : Int)
  | str (s : List UInt8)
  | nilp
  | obj (id off : Nat)
  | elt (e : AVal) (ag : Bool) (sz off : Nat)
  | sl (full : Bool) (sz : Nat) (es : List AVal)
  | nilmap
  | map (id : Nat)
  | fn (f : FuncId) (first cap : List AVal)
  | nilfn
  | agg (cs : List AVal)
  | nilif
  | iface (t : TypeId) (v : AVal)
  deriving Inhabited

/-- A value in a frame: with what the frame alone knows of it. -/
inductive SV where
  | unk
  | val (v : AVal)
  | own (g sz : Nat) (es : List AVal)
  | bor (id off sz : Nat) (es : List AVal)
  | loc (d off : Nat)
  | lsl (d : Nat)
  deriving Inhabited

inductive CV where
  | one (s : SV)
  | agg (l : List SV)
  deriving Inhabited

inductive EV where
  | cv (c : CV)
  | tup (l : List CV)
  deriving Inhabited

abbrev EV.one (s : SV) : EV := .cv (.one s)
abbrev EV.agg (l : List SV) : EV := .cv (.agg l)

inductive Box where
  | plain (cs : List AVal)
  | rich (cs : List SV)
  | arr (sz : Nat) (es : List AVal)
  deriving Inhabited

inductive HCell where
  | val (v : AVal)
  | own (sz : Nat) (es : List AVal)
  deriving Inhabited

inductive Obj where
  | cells (cs : List HCell)
  | map (kt : TypeId) (es : List (AVal × AVal × Nat)) (clock : Nat)
  deriving Inhabited

structure Heap where
  objs : List Obj
  deriving Inhabited

structure Fr where
  env : List (Nat × EV)
  boxes : List (Nat × Box)
  deriving Inhabited

abbrev Res := List AVal × Heap

/-- What a run comes to: an answer, none (a panic, or what isn't told), or one for each answer of the tape. -/
inductive Tr (α : Type) where
  | ret (a : α)
  | fail
  | any (n : Nat) (k : Nat → Tr α)

def Tr.bind {α β : Type} : Tr α → (α → Tr β) → Tr β
  | .ret a, f => f a
  | .fail, _ => .fail
  | .any n k, f => .any n fun i => (k i).bind f

def Tr.All {α : Type} (Q : α → Prop) : Tr α → Prop
  | .ret a => Q a
  | .fail => False
  | .any n k => 0 < n ∧ ∀ i, i < n → (k i).All Q

/-- One of several. -/
def Tr.anyL {α : Type} (l : List (Tr α)) : Tr α := .any l.length fun i => l.getD i .fail
theorem Tr.All.anyL {α : Type} {Q : α → Prop} {l : List (Tr α)} (h : (Tr.anyL l).All Q) : ∀ t ∈ l, t.All Q := fun t ht => by
  obtain ⟨i, hi, rfl⟩ := List.getElem_of_mem ht
  have := h.2 i hi
  simpa [hi] using this

/-! ### Looks into values -/
def AVal.isInt (k : IntKind) : AVal → Bool | .int k' _ => decide (k = k') | _ => false
def AVal.toInt : AVal → Int | .int _ n => n | _ => 0
def AVal.isBool : AVal → Bool | .bool _ => true | _ => false
def AVal.toBool : AVal → Bool | .bool b => b | _ => false
def AVal.isStr : AVal → Bool | .str _ => true | _ => false
def AVal.toStr : AVal → List UInt8 | .str s => s | _ => []
def AVal.isSl (sz : Nat) : AVal → Bool | .sl _ z es => z == sz || es.isEmpty | _ => false
/-- A slice that may be owned: of this shape, or nothing. -/
def AVal.isSlO (sz : Nat) : AVal → Bool | .sl f z es => z == sz || (f && es.isEmpty) | _ => false
def AVal.toFull : AVal → Bool | .sl f _ _ => f | _ => false
def AVal.toEs : AVal → List AVal | .sl _ _ es => es | _ => []
def AVal.toId : AVal → Nat | .obj id _ => id | .map id => id | _ => 0
def AVal.isNilp : AVal → Bool | .nilp => true | _ => false
def AVal.isPtr : AVal → Bool | .nilp => true | .obj _ _ => true | .elt _ _ _ _ => true | _ => false
def AVal.isMap : AVal → Bool | .map _ => true | _ => false
def AVal.cells : AVal → List AVal | .agg cs => cs | v => [v]
def AVal.isAgg : AVal → Bool | .agg _ => true | _ => false
def AVal.isFn : AVal → Bool | .fn _ _ _ => true | _ => false
def AVal.isAggOf (n : Nat) : AVal → Bool | .agg cs => cs.length == n | _ => false

def SV.toA : SV → Option AVal
  | .unk => none
  | .val v => some v
  | .own _ sz es => some (.sl false sz es)
  | .bor _ _ sz es => some (.sl false sz es)
  | .loc _ _ => none
  | .lsl _ => none

def optAll {α : Type} : List (Option α) → Option (List α)
  | [] => some []
  | none :: _ => none
  | some a :: r => match optAll r with | some l => some (a :: l) | none => none

def CV.toA : CV → Option AVal
  | .one s => s.toA
  | .agg l => match optAll (l.map SV.toA) with | some cs => some (.agg cs) | none => none
def EV.toA : EV → Option AVal
  | .cv c => c.toA
  | .tup _ => none

def SV.strip (g : Nat) : SV → SV
  | .own g' sz es => bif g' == g then .val (.sl false sz es) else .own g' sz es
  | s => s
/-- What is handed on is no more owned. -/
def SV.strips (gs : List Nat) : SV → SV
  | .own g sz es => bif gs.contains g then .val (.sl false sz es) else .own g sz es
  | s => s
def SV.unbor : SV → SV
  | .bor _ _ sz es => .val (.sl false sz es)
  | s => s
def CV.mapS (f : SV → SV) : CV → CV
  | .one s => .one (f s)
  | .agg l => .agg (l.map f)
def EV.mapS (f : SV → SV) : EV → EV
  | .cv c => .cv (c.mapS f)
  | .tup l => .tup (l.map (CV.mapS f))
def Box.mapS (f : SV → SV) : Box → Box
  | .plain cs => .plain cs
  | .rich cs => .rich (cs.map f)
  | .arr sz es => .arr sz es
def Fr.mapS (f : SV → SV) (fr : Fr) : Fr := ⟨fr.env.map fun p => (p.1, p.2.mapS f), fr.boxes.map fun p => (p.1, p.2.mapS f)⟩

def SV.has (g : Nat) : SV → Bool | .own g' _ _ => g' == g | _ => false
def SV.hasLoc (d : Nat) : SV → Bool | .loc d' _ => d' == d | .lsl d' => d' == d | _ => false
def CV.any (p : SV → Bool) : CV → Bool | .one s => p s | .agg l => l.any p
def EV.any (p : SV → Bool) : EV → Bool | .cv c => c.any p | .tup l => l.any (CV.any p)
def Box.any (p : SV → Bool) : Box → Bool | .plain _ => false | .rich l => l.any p | .arr _ _ => false
def Fr.any (p : SV → Bool) (fr : Fr) : Bool := fr.env.any (fun x => x.2.any p) || fr.boxes.any (fun x => x.2.any p)

/-! ### The frame's slots -/
def look {α : Type} (s : Nat) : List (Nat × α) → Option α
  | [] => none
  | (k, v) :: r => bif k == s then some v else look s r
/-- Slots stand in order: so that two settings of two slots come to the same list, whichever is first. -/
def ins {α : Type} (s : Nat) (v : α) : List (Nat × α) → List (Nat × α)
  | [] => [(s, v)]
  | (k, x) :: r => bif Nat.blt s k then (s, v) :: (k, x) :: r else bif k == s then (s, v) :: r else (k, x) :: ins s v r
def Fr.get (fr : Fr) (s : Nat) : EV := (look s fr.env).getD (.one .unk)
def Fr.set (fr : Fr) (s : Nat) (v : EV) : Fr := ⟨ins s v fr.env, fr.boxes⟩
def Fr.setBox (fr : Fr) (d : Nat) (b : Box) : Fr := ⟨fr.env, ins d b fr.boxes⟩
def Fr.put (fr : Fr) (dst : Option Nat) (v : EV) : Fr := match dst with | some d => fr.set d v | none => fr

/-- What a program of mine says of a function ahead: nothing that is said here is trusted. -/
inductive Keep where
  | plain (s : Nat)
  | own (s sz : Nat)
  | box (s : Nat) (owns : List (Nat × Nat))
  deriving Inhabited

structure Ann where
  keep : List (Nat × List Keep) := []
  loc : List (Nat × Bool) := []
  rich : List Nat := []
  frz : List Nat := []
  pown : List Nat := []
  rown : List Nat := []
  join : List Nat := []
  node : List (Nat × Nat) := []
  xs : List Nat := []
  thaw : List Nat := []
  fns : List (FuncId × Nat) := []
  deriving Inhabited

structure Cfg where
  P : Program
  ann : FuncId → Ann
  ext : FuncId → Option (List AVal → Heap → Tr Res)
  glob : Nat → Option AVal

def tokOf (d k : Nat) : Nat := d * 4096 + k

/-- A kept slot's value, its token by the slot's name. -/
def ownAs (g sz : Nat) : SV → SV
  | .own _ z es => bif z == sz then .own g sz es else .unk
  | .val (.sl true z es) => bif z == sz || es.isEmpty then .own g sz es else .unk
  | _ => .unk

/-- What is kept of a value: nothing that is owned, and no variable that is gone. -/
def SV.weak (bs : List Nat) : SV → SV
  | .own _ sz es => .val (.sl false sz es)
  | .bor _ _ sz es => .val (.sl false sz es)
  | .loc d off => bif bs.contains d then .loc d off else .unk
  | .lsl d => bif bs.contains d then .lsl d else .unk
  | s => s

def ownAsAt (bs : List Nat) (s : Nat) (owns : List (Nat × Nat)) : Nat → List SV → List SV
  | _, [] => []
  | j, c :: r => (match look j owns with | some sz => ownAs (tokOf s j) sz c | none => c.weak bs) :: ownAsAt bs s owns (j + 1) r

def keepOne (bs : List Nat) (fr : Fr) : Keep → Nat × EV
  | .plain s => (s, (fr.get s).mapS (SV.weak bs))
  | .own s sz => (s, match fr.get s with | .cv (.one v) => .one (ownAs (tokOf s 0) sz v) | _ => .one .unk)
  | .box s _ => (s, (fr.get s).mapS (SV.weak bs))
def keepBox (bs : List Nat) (fr : Fr) : Keep → Option (Nat × Box)
  | .box s owns =>
    (match look s fr.boxes with
    | some (.plain cs) => some (s, .plain cs)
    | some (.rich cs) => some (s, .rich (ownAsAt bs s owns 0 cs))
    | some (.arr sz es) => some (s, .arr sz es)
    | none => none)
  | _ => none
def boxOf (fr : Fr) : Keep → Option Nat
  | .box s _ => (match look s fr.boxes with | some _ => some s | none => none)
  | _ => none

/-- The tokens of a value or a row. -/
def SV.toks : SV → List Nat | .own g _ _ => [g] | _ => []
def CV.toks : CV → List Nat | .one s => s.toks | .agg l => l.flatMap SV.toks

def nodup : List Nat → Bool
  | [] => true
  | a :: r => !(r.contains a) && nodup r

/-- The tokens' new names, each with its old one. -/
def renS (g : Nat) : SV → List (Nat × Nat)
  | .own g' _ _ => [(g, g')]
  | _ => []
def renAt (s : Nat) (owns : List (Nat × Nat)) : Nat → List SV → List (Nat × Nat)
  | _, [] => []
  | j, c :: r => (match look j owns with | some _ => renS (tokOf s j) c | none => []) ++ renAt s owns (j + 1) r
def keepRen (fr : Fr) : Keep → List (Nat × Nat)
  | .plain _ => []
  | .own s _ => (match fr.get s with | .cv (.one v) => renS (tokOf s 0) v | _ => [])
  | .box s owns => (match look s fr.boxes with | some (.rich cs) => renAt s owns 0 cs | _ => [])

def keepIn (ks : List Keep) (fr : Fr) (bs : List Nat) (ren : List (Nat × Nat)) : Fr :=
  bif nodup (ren.map (·.1)) && nodup (ren.map (·.2)) then ⟨ks.map (keepOne bs fr), ks.filterMap (keepBox bs fr)⟩ else ⟨[], []⟩
def keepFr (ks : List Keep) (fr : Fr) : Fr := keepIn ks fr (ks.filterMap (boxOf fr)) (ks.flatMap (keepRen fr))

def firstRegion : Code → Option Nat
  | .region id _ _ => some id
  | .seq a b => match firstRegion a with | some i => some i | none => firstRegion b
  | .block _ c => firstRegion c
  | .loop c => firstRegion c
  | .scope c => firstRegion c
  | _ => none

def keepAt (A : Ann) (c : Code) (fr : Fr) : Fr :=
  match firstRegion c with
  | some id => match look id A.keep with | some ks => keepFr ks fr | none => fr
  | none => fr

/-! ### Types -/
def szOf (P : Program) (t : TypeId) : Nat := ((P.info? t).map (·.size)).getD 0
def bytesOf (P : Program) (t : TypeId) : Nat := ((P.info? t).map (·.bytes)).getD 0
def aggT (P : Program) (t : TypeId) : Bool :=
  match P.underlying t with
  | some (.struct _) | some (.array _ _) => true
  | _ => false

/-- Constants and zero values. -/
def ofValue1 : Value → Option AVal
  | .bool b => some (.bool b)
  | .int k n => some (.int k n)
  | .string s => some (.str s.data.toList)
  | .pointer none => some .nilp
  | .slice none 0 0 => some (.sl true 0 [])
  | .map none => some .nilmap
  | .nilFunc => some .nilfn
  | .nilIface => some .nilif
  | _ => none
def ofValue : Value → Option AVal
  | .agg cs => (match optAll (cs.toList.map ofValue1) with | some l => some (.agg l) | none => none)
  | v => ofValue1 v
/-- The shape of a slice's elements: 0: one cell; n + 1: a struct or an array of n cells. -/
def shp (P : Program) (t : TypeId) : Nat := bif aggT P t then szOf P t + 1 else 0
/-- Zero values: a slice of nothing has the shape of its type. -/
def ofZero1 (n : Nat) : Value → Option AVal
  | .slice none 0 0 => some (.sl true n [])
  | v => ofValue1 v
def ofZeros : List Nat → List Value → List (Option AVal)
  | _, [] => []
  | sh, v :: r => ofZero1 (sh.headD 0) v :: ofZeros sh.tail r
def ofZero (sh : List Nat) : Value → Option AVal
  | .agg cs => (match optAll (ofZeros sh cs.toList) with | some l => some (.agg l) | none => none)
  | v => ofZero1 (sh.headD 0) v
def shapesOf (P : Program) : Nat → TypeId → List Nat
  | 0, _ => []
  | n + 1, t =>
    match P.underlying t with
    | some (.slice e) => [shp P e]
    | some (.struct fs) => fs.toList.flatMap fun f => shapesOf P n f.type
    | some (.array k e) => (List.replicate k (shapesOf P n e)).flatten
    | _ => [0]
def zeroOf (P : Program) (t : TypeId) : Option AVal := ((P.info? t).bind (·.zero)).bind (ofZero (shapesOf P 20 t))
def cnt (s : Nat) : Nat := bif s == 0 then 1 else s - 1
/-- Elements of this type can be told: none of no cell. -/
def elOk (P : Program) (t : TypeId) : Bool :=
  decide (0 < szOf P t) && (aggT P t || szOf P t == 1) &&
  (match zeroOf P t with | some z => bif aggT P t then z.isAggOf (szOf P t) else !z.isAgg | none => false)

/-! ### Values by their types: what a look into memory or a call brings has the shape of its type -/
section
variable {R : Type}
def coerce (P : Program) (t : TypeId) (v : AVal) (K : AVal → Tr R) : Tr R :=
  match P.underlying t with
  | some (.int k) => bif v.isInt k then K (.int k v.toInt) else .fail
  | some .bool => bif v.isBool then K (.bool v.toBool) else .fail
  | some .string => bif v.isStr then K (.str v.toStr) else .fail
  | some (.slice e) => bif v.isSl (shp P e) then K (.sl v.toFull (shp P e) v.toEs) else .fail
  | some (.struct _) | some (.array _ _) => bif v.isAggOf (szOf P t) then K (.agg v.cells) else .fail
  | some _ => K v
  | none => .fail

def coerceS (P : Program) (t : TypeId) (s : SV) (K : SV → Tr R) : Tr R :=
  match s with
  | .val v => coerce P t v fun v => K (.val v)
  | .bor id off z es =>
    (match P.underlying t with
    | some (.slice e) => bif z == shp P e || es.isEmpty then K (.bor id off (shp P e) es) else .fail
    | _ => .fail)
  | s => K s

end

/-! ### Strings, bytes -/
def ofByte (b : UInt8) : AVal := .int .u8 b.toNat
def toByte : AVal → Option UInt8
  | .int .u8 n => if 0 ≤ n ∧ n < 256 then some (UInt8.ofNat n.toNat) else none
  | _ => none
def toBytes (es : List AVal) : Option (List UInt8) := optAll (es.map toByte)

def optK {α R : Type} (o : Option α) (K : α → Tr R) : Tr R := match o with | some a => K a | none => .fail

/-! ### Pure operations -/
def intBin (op : BinOp) (k : IntKind) (a : Int) (b : Int) : Option AVal :=
  match op with
  | .add => some (.int k (k.wrap (a + b)))
  | .sub => some (.int k (k.wrap (a - b)))
  | .mul => some (.int k (k.wrap (a * b)))
  | .and => some (.int k (k.wrap (BitVec.ofInt k.bits a &&& BitVec.ofInt k.bits b).toNat))
  | .or => some (.int k (k.wrap (BitVec.ofInt k.bits a ||| BitVec.ofInt k.bits b).toNat))
  | .xor => some (.int k (k.wrap (BitVec.ofInt k.bits a ^^^ BitVec.ofInt k.bits b).toNat))
  | .andNot => some (.int k (k.wrap (BitVec.ofInt k.bits a &&& ~~~ BitVec.ofInt k.bits b).toNat))
  | .eql => some (.bool (a == b))
  | .neq => some (.bool (a != b))
  | .lss => some (.bool (decide (a < b)))
  | .leq => some (.bool (decide (a ≤ b)))
  | .gtr => some (.bool (decide (a > b)))
  | .geq => some (.bool (decide (a ≥ b)))
  | _ => none

def strBin (op : BinOp) (a b : List UInt8) : Option AVal :=
  match op with
  | .eql => some (.bool (a == b))
  | .neq => some (.bool (!(a == b)))
  | .lss => some (.bool (Op.bytesLess a b))
  | .leq => some (.bool (Op.bytesLess a b || a == b))
  | .gtr => some (.bool (!(Op.bytesLess a b || a == b)))
  | .geq => some (.bool (!(Op.bytesLess a b)))
  | _ => none

/-- Plain data, one by one: numbers, bools, texts. -/
def AVal.eq1 : AVal → AVal → Bool
  | .int _ a, .int _ b => a == b
  | .bool a, .bool b => a == b
  | .str a, .str b => a == b
  | _, _ => false
def eqCells : List AVal → List AVal → Bool
  | [], [] => true
  | a :: x, b :: y => a.eq1 b && eqCells x y
  | _, _ => false

/-- The cells of a type all of which are plain data, compared cell by cell. -/
def leavesFs (P : Program) (g : TypeId → Option (List TypeDesc)) : Nat → List Field → Option (List TypeDesc)
  | _, [] => some []
  | off, f :: r =>
    match g f.type with
    | none => none
    | some l => bif (f.name != "_") && (f.offset == off) && (szOf P f.type == l.length) then
        (match leavesFs P g (off + l.length) r with | some m => some (l ++ m) | none => none) else none
def leavesOf (P : Program) : Nat → TypeId → Option (List TypeDesc)
  | 0, _ => none
  | d + 1, t =>
    match P.underlying t with
    | some .bool => some [.bool]
    | some (.int k) => some [.int k]
    | some .string => some [.string]
    | some (.struct fs) => bif P.stoodInHeld t then none else leavesFs P (leavesOf P d) 0 fs.toList
    | _ => none
def leafOk : TypeDesc → AVal → Bool
  | .bool, .bool _ => true
  | .int k, .int k' _ => decide (k = k')
  | .string, .str _ => true
  | _, _ => false
def leavesOk : List TypeDesc → List AVal → Bool
  | [], [] => true
  | t :: ts, v :: vs => leafOk t v && leavesOk ts vs
  | _, _ => false
def plainOk (P : Program) (t : TypeId) (v : AVal) : Bool :=
  match leavesOf P 100 t with
  | some l => (v.isAgg == aggT P t) && !(P.eqGuardType P.depth t) && leavesOk l v.cells
  | none => false

/-- An array of plain data. -/
def arrOk (P : Program) (n : Nat) (e : TypeId) (v : AVal) : Bool :=
  match P.underlying e with
  | some .bool => v.isAggOf n && v.cells.all (leafOk .bool)
  | some (.int k) => v.isAggOf n && v.cells.all (leafOk (.int k))
  | some .string => v.isAggOf n && v.cells.all (leafOk .string)
  | _ => false
def plainE (P : Program) (t : TypeId) (v : AVal) : Bool :=
  match P.underlying t with
  | some (.array n e) => ((szOf P e == 1) && !(P.eqGuardType P.depth t)) && arrOk P n e v
  | _ => plainOk P t v

section
variable {R : Type}
def binK (P : Program) (op : BinOp) (t : TypeId) (x y : AVal) (K : AVal → Tr R) : Tr R :=
  match x, y with
  | .int k a, .int k' b =>
    (match op with
    | .shl => bif decide (b < 0) then .fail else K (.int k (k.wrap (a * 2 ^ (min b.toNat k.bits))))
    | .shr => bif decide (b < 0) then .fail else K (.int k (a.fdiv (2 ^ (min b.toNat k.bits))))
    | .quo => bif decide (k = k') then (bif decide (b = 0) then .fail else K (.int k (k.wrap (a.tdiv b)))) else .fail
    | .rem => bif decide (k = k') then (bif decide (b = 0) then .fail else K (.int k (a.tmod b))) else .fail
    | op => bif decide (k = k') then optK (intBin op k a b) K else .fail)
  | .str a, .str b =>
    (match op with
    | .add => bif decide (a.length + b.length ≤ 140737488355328) then K (.str (a ++ b)) else .fail
    | op => optK (strBin op a b) K)
  | .bool a, .bool b =>
    (match op, P.underlying t with
    | .eql, some .bool => K (.bool (a == b))
    | .neq, some .bool => K (.bool (!(a == b)))
    | _, _ => .fail)
  | x, .nilp =>
    (match op, P.underlying t with
    | .eql, some (.pointer _) => bif x.isPtr then K (.bool x.isNilp) else .fail
    | .neq, some (.pointer _) => bif x.isPtr then K (.bool (!x.isNilp)) else .fail
    | _, _ => .fail)
  | x, y =>
    (match op with
    | .eql => bif aggT P t && plainE P t x && plainE P t y then K (.bool (eqCells x.cells y.cells)) else .fail
    | .neq => bif aggT P t && plainE P t x && plainE P t y then K (.bool (!(eqCells x.cells y.cells))) else .fail
    | _ => .fail)

def unK (op : UnOp) (x : AVal) (K : AVal → Tr R) : Tr R :=
  match op, x with
  | .not, .bool b => K (.bool (!b))
  | .neg, .int k n => K (.int k (k.wrap (0 - n)))
  | .xor, .int k n => K (.int k (k.wrap (BitVec.ofInt k.bits (if k.signed then -1 else k.max) ^^^ BitVec.ofInt k.bits n).toNat))
  | _, _ => .fail

def convK (P : Program) (src dst : TypeId) (x : AVal) (K : AVal → Tr R) : Tr R :=
  match P.underlying src, P.underlying dst, x with
  | some _, some (.int k), .int _ n => K (.int k (k.wrap n))
  | some _, some .string, .str s => K (.str s)
  | some (.slice e), some .string, .sl _ _ es =>
    (match P.underlying e with
    | some (.int .u8) => optK (toBytes es) fun s => K (.str s)
    | _ => .fail)
  | some .string, some (.slice e), .str s =>
    (match P.underlying e with
    | some (.int .u8) => K (.sl false 0 (s.map ofByte))
    | _ => .fail)
  | _, _, _ => .fail

/-- Bounds of a cut. -/
def intOf (v : EV) (K : Int → Tr R) : Tr R :=
  match v with
  | .cv (.one (.val (.int _ n))) => K n
  | _ => .fail
def optInt (v : Option EV) (d : Int) (K : Int → Tr R) : Tr R :=
  match v with
  | some v => intOf v K
  | none => K d
end

def part (l h : Int) {α : Type} (xs : List α) : List α := (xs.drop l.toNat).take (h - l).toNat

section
variable {R : Type}
def sliceK (P : Program) (t : TypeId) (x : EV) (lo hi mx : Option EV) (K : EV → Tr R) : Tr R :=
  match P.underlying t, x with
  | some .string, .cv (.one (.val (.str s))) =>
    (match mx with
    | some _ => .fail
    | none => optInt lo 0 fun l => optInt hi s.length fun h =>
      bif decide (0 ≤ l) && decide (l ≤ h) && decide (h ≤ s.length) then K (.one (.val (.str (part l h s)))) else .fail)
  | some (.slice e), .cv (.one x) =>
    (match x with
    | .loc _ _ => .fail
    | .lsl _ => .fail
    | x =>
      match x.toA with
      | some (.sl full sz es) =>
        bif elOk P e && (sz == shp P e || es.isEmpty) then
          optInt lo 0 fun l => optInt hi es.length fun h =>
            bif decide (0 ≤ l) && decide (l ≤ h) && decide (h ≤ es.length) then
              (match mx, hi with
              | some m, some _ => intOf m fun m => bif decide (m = h) then K (.one (.val (.sl true (shp P e) (part l h es)))) else .fail
              | some _, none => .fail
              | none, some _ => K (.one (.val (.sl false (shp P e) (part l h es))))
              | none, none =>
                match x with
                | .own g z _ => bif z == shp P e then K (.one (.own g (shp P e) (part l h es))) else .fail
                | _ => K (.one (.val (.sl full (shp P e) (part l h es)))))
            else .fail
        else .fail
      | _ => .fail)
  | _, _ => .fail

/-- Memory. -/
def Heap.cell? (h : Heap) (id off : Nat) : Option HCell :=
  match h.objs[id]? with
  | some (.cells cs) => cs[off]?
  | _ => none
def HCell.toA : HCell → AVal | .val v => v | .own sz es => .sl false sz es
def Heap.cells? (h : Heap) (id off n : Nat) : Option (List AVal) :=
  match h.objs[id]? with
  | some (.cells cs) => bif decide (off + n ≤ cs.length) then some (((cs.drop off).take n).map HCell.toA) else none
  | _ => none
def Heap.setCell (h : Heap) (id off : Nat) (c : HCell) : Heap :=
  match h.objs[id]? with
  | some (.cells cs) => ⟨h.objs.set id (.cells (cs.set off c))⟩
  | _ => h
def Heap.push (h : Heap) (o : Obj) : Heap := ⟨h.objs ++ [o]⟩

def spliceAt {α : Type} (off : Nat) (new : List α) (l : List α) : List α := l.take off ++ new ++ l.drop (off + new.length)

def eltLoad (P : Program) (t : TypeId) (e : AVal) (ag : Bool) (sz off : Nat) (K : AVal → Tr R) : Tr R :=
  bif sz == szOf P t && (ag == aggT P t) && off == 0 then K e else
  bif ag then
    (bif aggT P t then (bif decide (off + szOf P t ≤ e.cells.length) then K (.agg ((e.cells.drop off).take (szOf P t))) else .fail)
    else optK (e.cells[off]?) K)
  else .fail

def loadK (P : Program) (t : TypeId) (a : EV) (fr : Fr) (h : Heap) (K : EV → Tr R) : Tr R :=
  match a with
  | .cv (.one (.loc d off)) =>
    (match look d fr.boxes with
    | some (.plain cs) =>
      bif aggT P t then (bif decide (off + szOf P t ≤ cs.length) then K (.one (.val (.agg ((cs.drop off).take (szOf P t))))) else .fail)
      else optK (cs[off]?) fun v => coerce P t v fun v => K (.one (.val v))
    | some (.rich cs) =>
      bif aggT P t then (bif decide (off + szOf P t ≤ cs.length) then K (.agg ((cs.drop off).take (szOf P t))) else .fail)
      else bif (P.underlying t).isSome then optK (cs[off]?) fun s => coerceS P t s fun s => K (.one s) else .fail
    | some (.arr _ _) => .fail
    | none => .fail)
  | .cv (.one (.val (.obj id off))) =>
    bif aggT P t then optK (h.cells? id off (szOf P t)) fun cs => K (.one (.val (.agg cs)))
    else optK (h.cell? id off) fun c =>
      (match P.underlying t with
      | some (.slice e) => bif c.toA.isSl (shp P e) then K (.one (.bor id off (shp P e) c.toA.toEs)) else .fail
      | _ => coerce P t c.toA fun v => K (.one (.val v)))
  | .cv (.one (.val (.elt e ag sz off))) => eltLoad P t e ag sz off fun v => coerce P t v fun v => K (.one (.val v))
  | _ => .fail

/-- What is stored into a managed cell: an owned slice stays owned there, and nowhere else. -/
def hcellOf : SV → Option (HCell × Option Nat)
  | .val v => bif v.isAgg then none else some (.val v, none)
  | .own g sz es => some (.own sz es, some g)
  | .bor _ _ sz es => some (.val (.sl false sz es), none)
  | .loc _ _ | .lsl _ | .unk => none
def stripO (g : Option Nat) (fr : Fr) : Fr := match g with | some g => fr.mapS (SV.strip g) | none => fr

def CV.notUnk : CV → Bool | .one .unk => false | _ => true
def CV.cellsS : CV → List SV
  | .one .unk => []
  | .one (.val (.agg l)) => l.map .val
  | .one s => [s]
  | .agg l => l
def HCell.isOwn : HCell → Bool | .own _ _ => true | _ => false
def noOwn (n off : Nat) (cs : List HCell) : Bool := !(((cs.drop off).take n).any HCell.isOwn)

def storeK (P : Program) (t : TypeId) (a x : EV) (fr : Fr) (h : Heap) (K : Fr → Heap → Tr R) : Tr R :=
  bif decide (0 < szOf P t) && (aggT P t || szOf P t == 1) then
  (match a with
  | .cv (.one (.loc d off)) =>
    (match look d fr.boxes with
    | some (.plain cs) =>
      optK x.toA fun v => bif (bif aggT P t then v.isAggOf (szOf P t) else !v.isAgg) && decide (off + szOf P t ≤ cs.length) then
        K (fr.setBox d (.plain (bif aggT P t then (bif off == 0 && cs.length == szOf P t then v.cells else spliceAt off v.cells cs) else cs.set off v))) h else .fail
    | some (.rich cs) =>
      (match x with
      | .cv c => bif c.notUnk && c.cellsS.length == szOf P t && decide (off + szOf P t ≤ cs.length) then K (fr.setBox d (.rich (spliceAt off c.cellsS cs))) h else .fail
      | _ => .fail)
    | some (.arr _ _) => .fail
    | none => .fail)
  | .cv (.one (.val (.obj id off))) =>
    bif aggT P t then
      optK x.toA fun v => bif v.isAggOf (szOf P t) then
        optK (h.cells? id off (szOf P t)) fun _ =>
          (match h.objs[id]? with
          | some (.cells cs) => bif noOwn (szOf P t) off cs then K (fr.mapS SV.unbor) ⟨h.objs.set id (.cells (spliceAt off (v.cells.map .val) cs))⟩ else .fail
          | _ => .fail)
        else .fail
    else
      (match x with
      | .cv (.one s) => optK (hcellOf s) fun p => optK (h.cell? id off) fun _ => K ((stripO p.2 fr).mapS SV.unbor) (h.setCell id off p.1)
      | _ => .fail)
  | _ => .fail) else .fail
end
/-- How many bytes an append may come to: a row of single bytes some more. -/
def roomB (b : Nat) : Nat := bif b == 1 then 140737489403904 else 140737488355328
end Go.Weave
