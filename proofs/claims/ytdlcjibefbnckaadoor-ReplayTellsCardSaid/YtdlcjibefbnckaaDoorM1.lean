/- Texts of this proof, laid together: the evaluator, what it comes to, and the laws. No condition. -/
import GoSem.Step
import Derived.Calls
import Derived.Orders
import Derived.KernelRfl
import Derived.Laws.Sem
import Derived.Laws.Cells
import Derived.Laws.CopyRow
import Derived.Laws.World
import Derived.Laws.Strings
import Derived.Laws.StructEq
import Derived.DeepKeys
import Derived.ChangeKeysEq
import Derived.Laws.BytesString
import Derived.Lib.ConvBytes
section
/- The evaluator 'Go.Weave': Go functions as plain Lean over values that are trees (slices are lists), with managed objects for what escapes. -/
namespace Go.Weave

/-- A value, as data. -/
inductive AVal where
  | undef
  | bool (b : Bool)
  | int (k : IntKind) (n : Int)
  | str (s : List UInt8)
  | nilp
  | obj (id off : Nat)
  | elt (e : AVal) (ag : Bool) (sz off : Nat)
  | sl (full : Bool) (sz : Nat) (es : List AVal)
  | nilmap
  | map (id : Nat)
  | fn (f : FuncId) (first cap : List AVal)
  | nilfn
  | agg (cs : List AVal)
  | nilif
  | iface (t : TypeId) (v : AVal)
  deriving Inhabited

/-- A value in a frame: with what the frame alone knows of it. -/
inductive SV where
  | unk
  | val (v : AVal)
  | own (g sz : Nat) (es : List AVal)
  | bor (id off sz : Nat) (es : List AVal)
  | loc (d off : Nat)
  | lsl (d : Nat)
  deriving Inhabited

inductive CV where
  | one (s : SV)
  | agg (l : List SV)
  deriving Inhabited

inductive EV where
  | cv (c : CV)
  | tup (l : List CV)
  deriving Inhabited

abbrev EV.one (s : SV) : EV := .cv (.one s)
abbrev EV.agg (l : List SV) : EV := .cv (.agg l)

inductive Box where
  | plain (cs : List AVal)
  | rich (cs : List SV)
  | arr (sz : Nat) (es : List AVal)
  deriving Inhabited

inductive HCell where
  | val (v : AVal)
  | own (sz : Nat) (es : List AVal)
  deriving Inhabited

inductive Obj where
  | cells (cs : List HCell)
  | map (kt : TypeId) (es : List (AVal × AVal × Nat)) (clock : Nat)
  deriving Inhabited

structure Heap where
  objs : List Obj
  deriving Inhabited

structure Fr where
  env : List (Nat × EV)
  boxes : List (Nat × Box)
  deriving Inhabited

abbrev Res := List AVal × Heap

/-- What a run comes to: an answer, none (a panic, or what isn't told), or one for each answer of the tape. -/
inductive Tr (α : Type) where
  | ret (a : α)
  | fail
  | any (n : Nat) (k : Nat → Tr α)

def Tr.bind {α β : Type} : Tr α → (α → Tr β) → Tr β
  | .ret a, f => f a
  | .fail, _ => .fail
  | .any n k, f => .any n fun i => (k i).bind f

def Tr.All {α : Type} (Q : α → Prop) : Tr α → Prop
  | .ret a => Q a
  | .fail => False
  | .any n k => 0 < n ∧ ∀ i, i < n → (k i).All Q

/-- One of several. -/
def Tr.anyL {α : Type} (l : List (Tr α)) : Tr α := .any l.length fun i => l.getD i .fail
theorem Tr.All.anyL {α : Type} {Q : α → Prop} {l : List (Tr α)} (h : (Tr.anyL l).All Q) : ∀ t ∈ l, t.All Q := fun t ht => by
  obtain ⟨i, hi, rfl⟩ := List.getElem_of_mem ht
  have := h.2 i hi
  simpa [hi] using this

/-! ### Looks into values -/
def AVal.isInt (k : IntKind) : AVal → Bool | .int k' _ => decide (k = k') | _ => false
def AVal.toInt : AVal → Int | .int _ n => n | _ => 0
def AVal.isBool : AVal → Bool | .bool _ => true | _ => false
def AVal.toBool : AVal → Bool | .bool b => b | _ => false
def AVal.isStr : AVal → Bool | .str _ => true | _ => false
def AVal.toStr : AVal → List UInt8 | .str s => s | _ => []
def AVal.isSl (sz : Nat) : AVal → Bool | .sl _ z es => z == sz || es.isEmpty | _ => false
/-- A slice that may be owned: of this shape, or nothing. -/
def AVal.isSlO (sz : Nat) : AVal → Bool | .sl f z es => z == sz || (f && es.isEmpty) | _ => false
def AVal.toFull : AVal → Bool | .sl f _ _ => f | _ => false
def AVal.toEs : AVal → List AVal | .sl _ _ es => es | _ => []
def AVal.toId : AVal → Nat | .obj id _ => id | .map id => id | _ => 0
def AVal.isNilp : AVal → Bool | .nilp => true | _ => false
def AVal.isPtr : AVal → Bool | .nilp => true | .obj _ _ => true | .elt _ _ _ _ => true | _ => false
def AVal.isMap : AVal → Bool | .map _ => true | _ => false
def AVal.cells : AVal → List AVal | .agg cs => cs | v => [v]
def AVal.isAgg : AVal → Bool | .agg _ => true | _ => false
def AVal.isFn : AVal → Bool | .fn _ _ _ => true | _ => false
def AVal.isAggOf (n : Nat) : AVal → Bool | .agg cs => cs.length == n | _ => false

def SV.toA : SV → Option AVal
  | .unk => none
  | .val v => some v
  | .own _ sz es => some (.sl false sz es)
  | .bor _ _ sz es => some (.sl false sz es)
  | .loc _ _ => none
  | .lsl _ => none

def optAll {α : Type} : List (Option α) → Option (List α)
  | [] => some []
  | none :: _ => none
  | some a :: r => match optAll r with | some l => some (a :: l) | none => none

def CV.toA : CV → Option AVal
  | .one s => s.toA
  | .agg l => match optAll (l.map SV.toA) with | some cs => some (.agg cs) | none => none
def EV.toA : EV → Option AVal
  | .cv c => c.toA
  | .tup _ => none

def SV.strip (g : Nat) : SV → SV
  | .own g' sz es => bif g' == g then .val (.sl false sz es) else .own g' sz es
  | s => s
/-- What is handed on is no more owned. -/
def SV.strips (gs : List Nat) : SV → SV
  | .own g sz es => bif gs.contains g then .val (.sl false sz es) else .own g sz es
  | s => s
def SV.unbor : SV → SV
  | .bor _ _ sz es => .val (.sl false sz es)
  | s => s
def CV.mapS (f : SV → SV) : CV → CV
  | .one s => .one (f s)
  | .agg l => .agg (l.map f)
def EV.mapS (f : SV → SV) : EV → EV
  | .cv c => .cv (c.mapS f)
  | .tup l => .tup (l.map (CV.mapS f))
def Box.mapS (f : SV → SV) : Box → Box
  | .plain cs => .plain cs
  | .rich cs => .rich (cs.map f)
  | .arr sz es => .arr sz es
def Fr.mapS (f : SV → SV) (fr : Fr) : Fr := ⟨fr.env.map fun p => (p.1, p.2.mapS f), fr.boxes.map fun p => (p.1, p.2.mapS f)⟩

def SV.has (g : Nat) : SV → Bool | .own g' _ _ => g' == g | _ => false
def SV.hasLoc (d : Nat) : SV → Bool | .loc d' _ => d' == d | .lsl d' => d' == d | _ => false
def CV.any (p : SV → Bool) : CV → Bool | .one s => p s | .agg l => l.any p
def EV.any (p : SV → Bool) : EV → Bool | .cv c => c.any p | .tup l => l.any (CV.any p)
def Box.any (p : SV → Bool) : Box → Bool | .plain _ => false | .rich l => l.any p | .arr _ _ => false
def Fr.any (p : SV → Bool) (fr : Fr) : Bool := fr.env.any (fun x => x.2.any p) || fr.boxes.any (fun x => x.2.any p)

/-! ### The frame's slots -/
def look {α : Type} (s : Nat) : List (Nat × α) → Option α
  | [] => none
  | (k, v) :: r => bif k == s then some v else look s r
/-- Slots stand in order: so that two settings of two slots come to the same list, whichever is first. -/
def ins {α : Type} (s : Nat) (v : α) : List (Nat × α) → List (Nat × α)
  | [] => [(s, v)]
  | (k, x) :: r => bif Nat.blt s k then (s, v) :: (k, x) :: r else bif k == s then (s, v) :: r else (k, x) :: ins s v r
def Fr.get (fr : Fr) (s : Nat) : EV := (look s fr.env).getD (.one .unk)
def Fr.set (fr : Fr) (s : Nat) (v : EV) : Fr := ⟨ins s v fr.env, fr.boxes⟩
def Fr.setBox (fr : Fr) (d : Nat) (b : Box) : Fr := ⟨fr.env, ins d b fr.boxes⟩
def Fr.put (fr : Fr) (dst : Option Nat) (v : EV) : Fr := match dst with | some d => fr.set d v | none => fr

/-- What a program of mine says of a function ahead: nothing that is said here is trusted. -/
inductive Keep where
  | plain (s : Nat)
  | own (s sz : Nat)
  | box (s : Nat) (owns : List (Nat × Nat))
  deriving Inhabited

structure Ann where
  keep : List (Nat × List Keep) := []
  loc : List (Nat × Bool) := []
  rich : List Nat := []
  frz : List Nat := []
  pown : List Nat := []
  rown : List Nat := []
  join : List Nat := []
  node : List (Nat × Nat) := []
  xs : List Nat := []
  thaw : List Nat := []
  deriving Inhabited

structure Cfg where
  P : Program
  ann : FuncId → Ann
  ext : FuncId → Option (List AVal → Heap → Tr Res)
  glob : Nat → Option AVal

def tokOf (d k : Nat) : Nat := d * 4096 + k

/-- A kept slot's value, its token by the slot's name. -/
def ownAs (g sz : Nat) : SV → SV
  | .own _ z es => bif z == sz then .own g sz es else .unk
  | .val (.sl true z es) => bif z == sz || es.isEmpty then .own g sz es else .unk
  | _ => .unk

/-- What is kept of a value: nothing that is owned, and no variable that is gone. -/
def SV.weak (bs : List Nat) : SV → SV
  | .own _ sz es => .val (.sl false sz es)
  | .bor _ _ sz es => .val (.sl false sz es)
  | .loc d off => bif bs.contains d then .loc d off else .unk
  | .lsl d => bif bs.contains d then .lsl d else .unk
  | s => s

def ownAsAt (bs : List Nat) (s : Nat) (owns : List (Nat × Nat)) : Nat → List SV → List SV
  | _, [] => []
  | j, c :: r => (match look j owns with | some sz => ownAs (tokOf s j) sz c | none => c.weak bs) :: ownAsAt bs s owns (j + 1) r

def keepOne (bs : List Nat) (fr : Fr) : Keep → Nat × EV
  | .plain s => (s, (fr.get s).mapS (SV.weak bs))
  | .own s sz => (s, match fr.get s with | .cv (.one v) => .one (ownAs (tokOf s 0) sz v) | _ => .one .unk)
  | .box s _ => (s, (fr.get s).mapS (SV.weak bs))
def keepBox (bs : List Nat) (fr : Fr) : Keep → Option (Nat × Box)
  | .box s owns =>
    (match look s fr.boxes with
    | some (.plain cs) => some (s, .plain cs)
    | some (.rich cs) => some (s, .rich (ownAsAt bs s owns 0 cs))
    | some (.arr sz es) => some (s, .arr sz es)
    | none => none)
  | _ => none
def boxOf (fr : Fr) : Keep → Option Nat
  | .box s _ => (match look s fr.boxes with | some _ => some s | none => none)
  | _ => none

/-- The tokens of a value or a row. -/
def SV.toks : SV → List Nat | .own g _ _ => [g] | _ => []
def CV.toks : CV → List Nat | .one s => s.toks | .agg l => l.flatMap SV.toks

def nodup : List Nat → Bool
  | [] => true
  | a :: r => !(r.contains a) && nodup r

/-- The tokens' new names, each with its old one. -/
def renS (g : Nat) : SV → List (Nat × Nat)
  | .own g' _ _ => [(g, g')]
  | _ => []
def renAt (s : Nat) (owns : List (Nat × Nat)) : Nat → List SV → List (Nat × Nat)
  | _, [] => []
  | j, c :: r => (match look j owns with | some _ => renS (tokOf s j) c | none => []) ++ renAt s owns (j + 1) r
def keepRen (fr : Fr) : Keep → List (Nat × Nat)
  | .plain _ => []
  | .own s _ => (match fr.get s with | .cv (.one v) => renS (tokOf s 0) v | _ => [])
  | .box s owns => (match look s fr.boxes with | some (.rich cs) => renAt s owns 0 cs | _ => [])

def keepIn (ks : List Keep) (fr : Fr) (bs : List Nat) (ren : List (Nat × Nat)) : Fr :=
  bif nodup (ren.map (·.1)) && nodup (ren.map (·.2)) then ⟨ks.map (keepOne bs fr), ks.filterMap (keepBox bs fr)⟩ else ⟨[], []⟩
def keepFr (ks : List Keep) (fr : Fr) : Fr := keepIn ks fr (ks.filterMap (boxOf fr)) (ks.flatMap (keepRen fr))

def firstRegion : Code → Option Nat
  | .region id _ _ => some id
  | .seq a b => match firstRegion a with | some i => some i | none => firstRegion b
  | .block _ c => firstRegion c
  | .loop c => firstRegion c
  | .scope c => firstRegion c
  | _ => none

def keepAt (A : Ann) (c : Code) (fr : Fr) : Fr :=
  match firstRegion c with
  | some id => match look id A.keep with | some ks => keepFr ks fr | none => fr
  | none => fr

/-! ### Types -/
def szOf (P : Program) (t : TypeId) : Nat := ((P.info? t).map (·.size)).getD 0
def bytesOf (P : Program) (t : TypeId) : Nat := ((P.info? t).map (·.bytes)).getD 0
def aggT (P : Program) (t : TypeId) : Bool :=
  match P.underlying t with
  | some (.struct _) | some (.array _ _) => true
  | _ => false

/-- Constants and zero values. -/
def ofValue1 : Value → Option AVal
  | .bool b => some (.bool b)
  | .int k n => some (.int k n)
  | .string s => some (.str s.data.toList)
  | .pointer none => some .nilp
  | .slice none 0 0 => some (.sl true 0 [])
  | .map none => some .nilmap
  | .nilFunc => some .nilfn
  | .nilIface => some .nilif
  | _ => none
def ofValue : Value → Option AVal
  | .agg cs => (match optAll (cs.toList.map ofValue1) with | some l => some (.agg l) | none => none)
  | v => ofValue1 v
/-- The shape of a slice's elements: 0: one cell; n + 1: a struct or an array of n cells. -/
def shp (P : Program) (t : TypeId) : Nat := bif aggT P t then szOf P t + 1 else 0
/-- Zero values: a slice of nothing has the shape of its type. -/
def ofZero1 (n : Nat) : Value → Option AVal
  | .slice none 0 0 => some (.sl true n [])
  | v => ofValue1 v
def ofZeros : List Nat → List Value → List (Option AVal)
  | _, [] => []
  | sh, v :: r => ofZero1 (sh.headD 0) v :: ofZeros sh.tail r
def ofZero (sh : List Nat) : Value → Option AVal
  | .agg cs => (match optAll (ofZeros sh cs.toList) with | some l => some (.agg l) | none => none)
  | v => ofZero1 (sh.headD 0) v
def shapesOf (P : Program) : Nat → TypeId → List Nat
  | 0, _ => []
  | n + 1, t =>
    match P.underlying t with
    | some (.slice e) => [shp P e]
    | some (.struct fs) => fs.toList.flatMap fun f => shapesOf P n f.type
    | some (.array k e) => (List.replicate k (shapesOf P n e)).flatten
    | _ => [0]
def zeroOf (P : Program) (t : TypeId) : Option AVal := ((P.info? t).bind (·.zero)).bind (ofZero (shapesOf P 20 t))
def cnt (s : Nat) : Nat := bif s == 0 then 1 else s - 1
/-- Elements of this type can be told: none of no cell. -/
def elOk (P : Program) (t : TypeId) : Bool :=
  decide (0 < szOf P t) && (aggT P t || szOf P t == 1) &&
  (match zeroOf P t with | some z => bif aggT P t then z.isAggOf (szOf P t) else !z.isAgg | none => false)

/-! ### Values by their types: what a look into memory or a call brings has the shape of its type -/
section
variable {R : Type}
def coerce (P : Program) (t : TypeId) (v : AVal) (K : AVal → Tr R) : Tr R :=
  match P.underlying t with
  | some (.int k) => bif v.isInt k then K (.int k v.toInt) else .fail
  | some .bool => bif v.isBool then K (.bool v.toBool) else .fail
  | some .string => bif v.isStr then K (.str v.toStr) else .fail
  | some (.slice e) => bif v.isSl (shp P e) then K (.sl v.toFull (shp P e) v.toEs) else .fail
  | some (.struct _) | some (.array _ _) => bif v.isAggOf (szOf P t) then K (.agg v.cells) else .fail
  | some _ => K v
  | none => .fail

def coerceS (P : Program) (t : TypeId) (s : SV) (K : SV → Tr R) : Tr R :=
  match s with
  | .val v => coerce P t v fun v => K (.val v)
  | .bor id off z es =>
    (match P.underlying t with
    | some (.slice e) => bif z == shp P e || es.isEmpty then K (.bor id off (shp P e) es) else .fail
    | _ => .fail)
  | s => K s

end

/-! ### Strings, bytes -/
def ofByte (b : UInt8) : AVal := .int .u8 b.toNat
def toByte : AVal → Option UInt8
  | .int .u8 n => if 0 ≤ n ∧ n < 256 then some (UInt8.ofNat n.toNat) else none
  | _ => none
def toBytes (es : List AVal) : Option (List UInt8) := optAll (es.map toByte)

def optK {α R : Type} (o : Option α) (K : α → Tr R) : Tr R := match o with | some a => K a | none => .fail

/-! ### Pure operations -/
def intBin (op : BinOp) (k : IntKind) (a : Int) (b : Int) : Option AVal :=
  match op with
  | .add => some (.int k (k.wrap (a + b)))
  | .sub => some (.int k (k.wrap (a - b)))
  | .mul => some (.int k (k.wrap (a * b)))
  | .and => some (.int k (k.wrap (BitVec.ofInt k.bits a &&& BitVec.ofInt k.bits b).toNat))
  | .or => some (.int k (k.wrap (BitVec.ofInt k.bits a ||| BitVec.ofInt k.bits b).toNat))
  | .xor => some (.int k (k.wrap (BitVec.ofInt k.bits a ^^^ BitVec.ofInt k.bits b).toNat))
  | .andNot => some (.int k (k.wrap (BitVec.ofInt k.bits a &&& ~~~ BitVec.ofInt k.bits b).toNat))
  | .eql => some (.bool (a == b))
  | .neq => some (.bool (a != b))
  | .lss => some (.bool (decide (a < b)))
  | .leq => some (.bool (decide (a ≤ b)))
  | .gtr => some (.bool (decide (a > b)))
  | .geq => some (.bool (decide (a ≥ b)))
  | _ => none

def strBin (op : BinOp) (a b : List UInt8) : Option AVal :=
  match op with
  | .eql => some (.bool (a == b))
  | .neq => some (.bool (!(a == b)))
  | .lss => some (.bool (Op.bytesLess a b))
  | .leq => some (.bool (Op.bytesLess a b || a == b))
  | .gtr => some (.bool (!(Op.bytesLess a b || a == b)))
  | .geq => some (.bool (!(Op.bytesLess a b)))
  | _ => none

/-- Plain data, one by one: numbers, bools, texts. -/
def AVal.eq1 : AVal → AVal → Bool
  | .int _ a, .int _ b => a == b
  | .bool a, .bool b => a == b
  | .str a, .str b => a == b
  | _, _ => false
def eqCells : List AVal → List AVal → Bool
  | [], [] => true
  | a :: x, b :: y => a.eq1 b && eqCells x y
  | _, _ => false

/-- The cells of a type all of which are plain data, compared cell by cell. -/
def leavesFs (P : Program) (g : TypeId → Option (List TypeDesc)) : Nat → List Field → Option (List TypeDesc)
  | _, [] => some []
  | off, f :: r =>
    match g f.type with
    | none => none
    | some l => bif (f.name != "_") && (f.offset == off) && (szOf P f.type == l.length) then
        (match leavesFs P g (off + l.length) r with | some m => some (l ++ m) | none => none) else none
def leavesOf (P : Program) : Nat → TypeId → Option (List TypeDesc)
  | 0, _ => none
  | d + 1, t =>
    match P.underlying t with
    | some .bool => some [.bool]
    | some (.int k) => some [.int k]
    | some .string => some [.string]
    | some (.struct fs) => bif P.stoodInHeld t then none else leavesFs P (leavesOf P d) 0 fs.toList
    | _ => none
def leafOk : TypeDesc → AVal → Bool
  | .bool, .bool _ => true
  | .int k, .int k' _ => decide (k = k')
  | .string, .str _ => true
  | _, _ => false
def leavesOk : List TypeDesc → List AVal → Bool
  | [], [] => true
  | t :: ts, v :: vs => leafOk t v && leavesOk ts vs
  | _, _ => false
def plainOk (P : Program) (t : TypeId) (v : AVal) : Bool :=
  match leavesOf P 100 t with
  | some l => (v.isAgg == aggT P t) && !(P.eqGuardType P.depth t) && leavesOk l v.cells
  | none => false

/-- An array of plain data. -/
def arrOk (P : Program) (n : Nat) (e : TypeId) (v : AVal) : Bool :=
  match P.underlying e with
  | some .bool => v.isAggOf n && v.cells.all (leafOk .bool)
  | some (.int k) => v.isAggOf n && v.cells.all (leafOk (.int k))
  | some .string => v.isAggOf n && v.cells.all (leafOk .string)
  | _ => false
def plainE (P : Program) (t : TypeId) (v : AVal) : Bool :=
  match P.underlying t with
  | some (.array n e) => ((szOf P e == 1) && !(P.eqGuardType P.depth t)) && arrOk P n e v
  | _ => plainOk P t v

section
variable {R : Type}
def binK (P : Program) (op : BinOp) (t : TypeId) (x y : AVal) (K : AVal → Tr R) : Tr R :=
  match x, y with
  | .int k a, .int k' b =>
    (match op with
    | .shl => bif decide (b < 0) then .fail else K (.int k (k.wrap (a * 2 ^ (min b.toNat k.bits))))
    | .shr => bif decide (b < 0) then .fail else K (.int k (a.fdiv (2 ^ (min b.toNat k.bits))))
    | .quo => bif decide (k = k') then (bif decide (b = 0) then .fail else K (.int k (k.wrap (a.tdiv b)))) else .fail
    | .rem => bif decide (k = k') then (bif decide (b = 0) then .fail else K (.int k (a.tmod b))) else .fail
    | op => bif decide (k = k') then optK (intBin op k a b) K else .fail)
  | .str a, .str b =>
    (match op with
    | .add => bif decide (a.length + b.length ≤ 140737488355328) then K (.str (a ++ b)) else .fail
    | op => optK (strBin op a b) K)
  | .bool a, .bool b =>
    (match op, P.underlying t with
    | .eql, some .bool => K (.bool (a == b))
    | .neq, some .bool => K (.bool (!(a == b)))
    | _, _ => .fail)
  | x, .nilp =>
    (match op, P.underlying t with
    | .eql, some (.pointer _) => bif x.isPtr then K (.bool x.isNilp) else .fail
    | .neq, some (.pointer _) => bif x.isPtr then K (.bool (!x.isNilp)) else .fail
    | _, _ => .fail)
  | x, y =>
    (match op with
    | .eql => bif aggT P t && plainE P t x && plainE P t y then K (.bool (eqCells x.cells y.cells)) else .fail
    | .neq => bif aggT P t && plainE P t x && plainE P t y then K (.bool (!(eqCells x.cells y.cells))) else .fail
    | _ => .fail)

def unK (op : UnOp) (x : AVal) (K : AVal → Tr R) : Tr R :=
  match op, x with
  | .not, .bool b => K (.bool (!b))
  | .neg, .int k n => K (.int k (k.wrap (0 - n)))
  | .xor, .int k n => K (.int k (k.wrap (BitVec.ofInt k.bits (if k.signed then -1 else k.max) ^^^ BitVec.ofInt k.bits n).toNat))
  | _, _ => .fail

def convK (P : Program) (src dst : TypeId) (x : AVal) (K : AVal → Tr R) : Tr R :=
  match P.underlying src, P.underlying dst, x with
  | some _, some (.int k), .int _ n => K (.int k (k.wrap n))
  | some _, some .string, .str s => K (.str s)
  | some (.slice e), some .string, .sl _ _ es =>
    (match P.underlying e with
    | some (.int .u8) => optK (toBytes es) fun s => K (.str s)
    | _ => .fail)
  | some .string, some (.slice e), .str s =>
    (match P.underlying e with
    | some (.int .u8) => K (.sl false 0 (s.map ofByte))
    | _ => .fail)
  | _, _, _ => .fail

/-- Bounds of a cut. -/
def intOf (v : EV) (K : Int → Tr R) : Tr R :=
  match v with
  | .cv (.one (.val (.int _ n))) => K n
  | _ => .fail
def optInt (v : Option EV) (d : Int) (K : Int → Tr R) : Tr R :=
  match v with
  | some v => intOf v K
  | none => K d
end

def part (l h : Int) {α : Type} (xs : List α) : List α := (xs.drop l.toNat).take (h - l).toNat

section
variable {R : Type}
def sliceK (P : Program) (t : TypeId) (x : EV) (lo hi mx : Option EV) (K : EV → Tr R) : Tr R :=
  match P.underlying t, x with
  | some .string, .cv (.one (.val (.str s))) =>
    (match mx with
    | some _ => .fail
    | none => optInt lo 0 fun l => optInt hi s.length fun h =>
      bif decide (0 ≤ l) && decide (l ≤ h) && decide (h ≤ s.length) then K (.one (.val (.str (part l h s)))) else .fail)
  | some (.slice e), .cv (.one x) =>
    (match x with
    | .loc _ _ => .fail
    | .lsl _ => .fail
    | x =>
      match x.toA with
      | some (.sl full sz es) =>
        bif elOk P e && (sz == shp P e || es.isEmpty) then
          optInt lo 0 fun l => optInt hi es.length fun h =>
            bif decide (0 ≤ l) && decide (l ≤ h) && decide (h ≤ es.length) then
              (match mx, hi with
              | some m, some _ => intOf m fun m => bif decide (m = h) then K (.one (.val (.sl true (shp P e) (part l h es)))) else .fail
              | some _, none => .fail
              | none, some _ => K (.one (.val (.sl false (shp P e) (part l h es))))
              | none, none =>
                match x with
                | .own g z _ => bif z == shp P e then K (.one (.own g (shp P e) (part l h es))) else .fail
                | _ => K (.one (.val (.sl full (shp P e) (part l h es)))))
            else .fail
        else .fail
      | _ => .fail)
  | _, _ => .fail

/-- Memory. -/
def Heap.cell? (h : Heap) (id off : Nat) : Option HCell :=
  match h.objs[id]? with
  | some (.cells cs) => cs[off]?
  | _ => none
def HCell.toA : HCell → AVal | .val v => v | .own sz es => .sl false sz es
def Heap.cells? (h : Heap) (id off n : Nat) : Option (List AVal) :=
  match h.objs[id]? with
  | some (.cells cs) => bif decide (off + n ≤ cs.length) then some (((cs.drop off).take n).map HCell.toA) else none
  | _ => none
def Heap.setCell (h : Heap) (id off : Nat) (c : HCell) : Heap :=
  match h.objs[id]? with
  | some (.cells cs) => ⟨h.objs.set id (.cells (cs.set off c))⟩
  | _ => h
def Heap.push (h : Heap) (o : Obj) : Heap := ⟨h.objs ++ [o]⟩

def spliceAt {α : Type} (off : Nat) (new : List α) (l : List α) : List α := l.take off ++ new ++ l.drop (off + new.length)

def eltLoad (P : Program) (t : TypeId) (e : AVal) (ag : Bool) (sz off : Nat) (K : AVal → Tr R) : Tr R :=
  bif sz == szOf P t && (ag == aggT P t) && off == 0 then K e else
  bif ag then
    (bif aggT P t then (bif decide (off + szOf P t ≤ e.cells.length) then K (.agg ((e.cells.drop off).take (szOf P t))) else .fail)
    else optK (e.cells[off]?) K)
  else .fail

def loadK (P : Program) (t : TypeId) (a : EV) (fr : Fr) (h : Heap) (K : EV → Tr R) : Tr R :=
  match a with
  | .cv (.one (.loc d off)) =>
    (match look d fr.boxes with
    | some (.plain cs) =>
      bif aggT P t then (bif decide (off + szOf P t ≤ cs.length) then K (.one (.val (.agg ((cs.drop off).take (szOf P t))))) else .fail)
      else optK (cs[off]?) fun v => coerce P t v fun v => K (.one (.val v))
    | some (.rich cs) =>
      bif aggT P t then (bif decide (off + szOf P t ≤ cs.length) then K (.agg ((cs.drop off).take (szOf P t))) else .fail)
      else bif (P.underlying t).isSome then optK (cs[off]?) fun s => coerceS P t s fun s => K (.one s) else .fail
    | some (.arr _ _) => .fail
    | none => .fail)
  | .cv (.one (.val (.obj id off))) =>
    bif aggT P t then optK (h.cells? id off (szOf P t)) fun cs => K (.one (.val (.agg cs)))
    else optK (h.cell? id off) fun c =>
      (match P.underlying t with
      | some (.slice e) => bif c.toA.isSl (shp P e) then K (.one (.bor id off (shp P e) c.toA.toEs)) else .fail
      | _ => coerce P t c.toA fun v => K (.one (.val v)))
  | .cv (.one (.val (.elt e ag sz off))) => eltLoad P t e ag sz off fun v => coerce P t v fun v => K (.one (.val v))
  | _ => .fail

/-- What is stored into a managed cell: an owned slice stays owned there, and nowhere else. -/
def hcellOf : SV → Option (HCell × Option Nat)
  | .val v => bif v.isAgg then none else some (.val v, none)
  | .own g sz es => some (.own sz es, some g)
  | .bor _ _ sz es => some (.val (.sl false sz es), none)
  | .loc _ _ | .lsl _ | .unk => none
def stripO (g : Option Nat) (fr : Fr) : Fr := match g with | some g => fr.mapS (SV.strip g) | none => fr

def CV.notUnk : CV → Bool | .one .unk => false | _ => true
def CV.cellsS : CV → List SV
  | .one .unk => []
  | .one (.val (.agg l)) => l.map .val
  | .one s => [s]
  | .agg l => l
def HCell.isOwn : HCell → Bool | .own _ _ => true | _ => false
def noOwn (n off : Nat) (cs : List HCell) : Bool := !(((cs.drop off).take n).any HCell.isOwn)

def storeK (P : Program) (t : TypeId) (a x : EV) (fr : Fr) (h : Heap) (K : Fr → Heap → Tr R) : Tr R :=
  bif decide (0 < szOf P t) && (aggT P t || szOf P t == 1) then
  (match a with
  | .cv (.one (.loc d off)) =>
    (match look d fr.boxes with
    | some (.plain cs) =>
      optK x.toA fun v => bif (bif aggT P t then v.isAggOf (szOf P t) else !v.isAgg) && decide (off + szOf P t ≤ cs.length) then
        K (fr.setBox d (.plain (bif aggT P t then (bif off == 0 && cs.length == szOf P t then v.cells else spliceAt off v.cells cs) else cs.set off v))) h else .fail
    | some (.rich cs) =>
      (match x with
      | .cv c => bif c.notUnk && c.cellsS.length == szOf P t && decide (off + szOf P t ≤ cs.length) then K (fr.setBox d (.rich (spliceAt off c.cellsS cs))) h else .fail
      | _ => .fail)
    | some (.arr _ _) => .fail
    | none => .fail)
  | .cv (.one (.val (.obj id off))) =>
    bif aggT P t then
      optK x.toA fun v => bif v.isAggOf (szOf P t) then
        optK (h.cells? id off (szOf P t)) fun _ =>
          (match h.objs[id]? with
          | some (.cells cs) => bif noOwn (szOf P t) off cs then K (fr.mapS SV.unbor) ⟨h.objs.set id (.cells (spliceAt off (v.cells.map .val) cs))⟩ else .fail
          | _ => .fail)
        else .fail
    else
      (match x with
      | .cv (.one s) => optK (hcellOf s) fun p => optK (h.cell? id off) fun _ => K ((stripO p.2 fr).mapS SV.unbor) (h.setCell id off p.1)
      | _ => .fail)
  | _ => .fail) else .fail
end
end Go.Weave
end

section
/- The evaluator, part 2: operations, code, calls. -/
namespace Go.Weave

def keyEq (a b : AVal) : Bool := eqCells a.cells b.cells
def findK (k : AVal) : List (AVal × AVal × Nat) → Nat → Option (Nat × AVal × Nat)
  | [], _ => none
  | (k', v, b) :: r, i => bif keyEq k k' then some (i, v, b) else findK k r (i + 1)
def putK (k v : AVal) : List (AVal × AVal × Nat) → Nat → List (AVal × AVal × Nat)
  | [], n => [(k, v, n)]
  | (k', v', b) :: r, n => bif keyEq k k' then (k, v, b) :: r else (k', v', b) :: putK k v r n
def hasK (k : AVal) (es : List (AVal × AVal × Nat)) : Bool := (findK k es 0).isSome
def delK (k : AVal) : List (AVal × AVal × Nat) → List (AVal × AVal × Nat)
  | [] => []
  | (k', v', b) :: r => bif keyEq k k' then r else (k', v', b) :: delK k r
def setBorn (b : Int) (v : AVal) : List (AVal × AVal × Nat) → List (AVal × AVal × Nat)
  | [] => []
  | (k', v', b') :: r => bif decide ((b' : Int) = b) then (k', v, b') :: r else (k', v', b') :: setBorn b v r

section
variable {R : Type}

def Fr.opnd (fr : Fr) : Operand → EV
  | .tmp t => fr.get t
  | .const v => (match ofValue v with | some a => .one (.val a) | none => .one .unk)
  | .func f => .one (.val (.fn f [] []))
  | .global _ => .one .unk

/-- A new variable. -/
def newK (P : Program) (A : Ann) (dst : Option Nat) (t : TypeId) (x : EV) (fr : Fr) (h : Heap) (K : Fr → Heap → Tr R) : Tr R :=
  match dst with
  | none => .fail
  | some d =>
    bif A.frz.contains d then
      optK x.toA fun v => bif (bif aggT P t then v.isAggOf (szOf P t) else !v.isAgg) then
        K (fr.set d (.one (.val (.elt v (aggT P t) v.cells.length 0)))) h else .fail
    else
    match look d A.loc with
    | some false =>
      optK x.toA fun v => bif (bif aggT P t then v.isAggOf (szOf P t) else !v.isAgg) && !(fr.any (SV.hasLoc d)) then
        K ((fr.setBox d (.plain (bif aggT P t then v.cells else [v]))).set d (.one (.loc d 0))) h else .fail
    | some true =>
      bif fr.any (SV.hasLoc d) || x.any (SV.hasLoc d) then .fail else
      (match x with
      | .cv (.agg l) => bif aggT P t && l.length == szOf P t then K ((fr.setBox d (.rich l)).set d (.one (.loc d 0))) h else .fail
      | .cv (.one (.val (.agg l))) => bif aggT P t && l.length == szOf P t then K ((fr.setBox d (.rich (l.map .val))).set d (.one (.loc d 0))) h else .fail
      | .cv (.one .unk) => .fail
      | .cv (.one s) => bif aggT P t then .fail else bif (s.toA.getD .nilp).isAgg then .fail else K ((fr.setBox d (.rich [s])).set d (.one (.loc d 0))) h
      | .tup _ => .fail)
    | none =>
      bif aggT P t then
        optK x.toA fun v => bif v.isAggOf (szOf P t) then K (fr.set d (.one (.val (.obj h.objs.length 0)))) (h.push (.cells (v.cells.map .val))) else .fail
      else
        (match x with
        | .cv (.one s) => optK (hcellOf s) fun p => K ((stripO p.2 fr).set d (.one (.val (.obj h.objs.length 0)))) (h.push (.cells [p.1]))
        | _ => .fail)

/-- A literal's cells. -/
def fillA (place : Nat → Option (Nat × Nat)) (cs : List AVal) : List (Nat × AVal) → Option (List AVal)
  | [] => some cs
  | (i, v) :: r =>
    match place i with
    | some (off, sz) => bif decide (0 < sz) && (v.cells.length == sz) && decide (off + sz ≤ cs.length) then fillA place (spliceAt off v.cells cs) r else none
    | none => none
def fillS (place : Nat → Option (Nat × Nat)) (cs : List SV) : List (Nat × CV) → Option (List SV)
  | [] => some cs
  | (i, v) :: r =>
    match place i with
    | some (off, sz) => bif decide (0 < sz) && (v.cellsS.length == sz) && decide (off + sz ≤ cs.length) then fillS place (spliceAt off v.cellsS cs) r else none
    | none => none
def placeOf (P : Program) (t : TypeId) : Option (Nat → Option (Nat × Nat)) :=
  match P.underlying t with
  | some (.struct fs) => bif fs.toList.all (fun f => (P.info? f.type).isSome) then some fun i => (fs[i]?).map fun f => (f.offset, szOf P f.type) else none
  | some (.array _ e) => bif (P.info? e).isSome then some fun i => some (i * szOf P e, szOf P e) else none
  | _ => none
def toCs : List (Nat × EV) → Option (List (Nat × CV))
  | [] => some []
  | (i, .cv c) :: r => match toCs r with | some l => some ((i, c) :: l) | none => none
  | (_, .tup _) :: _ => none
def toAs : List (Nat × EV) → Option (List (Nat × AVal))
  | [] => some []
  | (i, x) :: r => match x.toA, toAs r with | some v, some l => some ((i, v) :: l) | _, _ => none

def buildK (P : Program) (rich : Bool) (t : TypeId) (parts : List (Nat × EV)) (K : EV → Tr R) : Tr R :=
  optK (zeroOf P t) fun z => optK (placeOf P t) fun place =>
    bif rich then optK (toCs parts) fun ps => optK (fillS place (z.cells.map .val) ps) fun l => K (.agg l)
    else optK (toAs parts) fun ps => optK (fillA place z.cells ps) fun l => K (.one (.val (.agg l)))

/-- A slice literal's elements. -/
def elemsOf (ag : Bool) (sz : Nat) (es : List AVal) : List (Nat × AVal) → Option (List AVal)
  | [] => some es
  | (i, v) :: r => bif (bif ag then v.isAggOf sz else !v.isAgg) && decide (i < es.length) then elemsOf ag sz (es.set i v) r else none
def buildSliceK (P : Program) (t : TypeId) (len : Nat) (parts : List (Nat × EV)) (K : EV → Tr R) : Tr R :=
  match P.underlying t with
  | some (.slice e) =>
    bif elOk P e && decide (len * szOf P e ≤ 16777216) then
      optK (zeroOf P e) fun z => bif (bif aggT P e then z.isAggOf (szOf P e) else !z.isAgg) then
        optK (toAs parts) fun ps => optK (elemsOf (aggT P e) (szOf P e) (List.replicate len z) ps) fun es => K (.one (.val (.sl true (shp P e) es)))
      else .fail
    else .fail
  | _ => .fail

def fieldAddrK (P : Program) (s : TypeId) (x : EV) (f : Nat) (K : EV → Tr R) : Tr R :=
  match P.underlying s with
  | some (.struct fs) =>
    (match fs[f]? with
    | some fd =>
      bif szOf P fd.type == 0 then .fail else
      (match x with
      | .cv (.one (.loc d off)) => K (.one (.loc d (off + fd.offset)))
      | .cv (.one (.val (.obj id off))) => K (.one (.val (.obj id (off + fd.offset))))
      | .cv (.one (.val (.elt e ag sz off))) => K (.one (.val (.elt e ag sz (off + fd.offset))))
      | _ => .fail)
    | none => .fail)
  | _ => .fail

def indexAddrK (P : Program) (t : TypeId) (x i : EV) (K : EV → Tr R) : Tr R :=
  intOf i fun n =>
    match P.underlying t with
    | some (.array len e) =>
      bif elOk P e && (decide (0 ≤ n) && decide (n < (len : Int))) then
        (match x with
        | .cv (.one (.loc d off)) => K (.one (.loc d (off + n.toNat * szOf P e)))
        | .cv (.one (.val (.obj id off))) => K (.one (.val (.obj id (off + n.toNat * szOf P e))))
        | .cv (.one (.val (.elt v ag sz off))) => K (.one (.val (.elt v ag sz (off + n.toNat * szOf P e))))
        | _ => .fail)
      else .fail
    | some (.slice e) =>
      (match x.toA with
      | some (.sl _ sz es) =>
        bif elOk P e && (sz == shp P e || es.isEmpty) && (decide (0 ≤ n) && decide (n < (es.length : Int))) then
          K (.one (.val (.elt (es.getD n.toNat .undef) (aggT P e) (szOf P e) 0)))
        else .fail
      | _ => .fail)
    | _ => .fail

def partK (P : Program) (t : TypeId) (cs : List AVal) (off : Nat) (K : EV → Tr R) : Tr R :=
  bif aggT P t then (bif decide (off + szOf P t ≤ cs.length) then K (.one (.val (.agg ((cs.drop off).take (szOf P t))))) else .fail)
  else optK (cs[off]?) fun v => coerce P t v fun v => K (.one (.val v))

def fieldK (P : Program) (t : TypeId) (x : EV) (f : Nat) (K : EV → Tr R) : Tr R :=
  match P.underlying t with
  | some (.struct fs) =>
    (match fs[f]? with
    | some fd =>
      (match x with
      | .cv (.agg l) =>
        bif aggT P fd.type then (bif decide (fd.offset + szOf P fd.type ≤ l.length) then K (.agg ((l.drop fd.offset).take (szOf P fd.type))) else .fail)
        else bif (P.underlying fd.type).isSome then optK (l[fd.offset]?) fun s => coerceS P fd.type s fun s => K (.one s) else .fail
      | x => optK x.toA fun v => bif v.isAgg then partK P fd.type v.cells fd.offset K else .fail)
    | none => .fail)
  | _ => .fail

def indexK (P : Program) (t : TypeId) (x i : EV) (K : EV → Tr R) : Tr R :=
  intOf i fun n =>
    match P.underlying t, x with
    | some (.array len e), x =>
      optK x.toA fun v => bif v.isAgg && (decide (0 ≤ n) && decide (n < (len : Int))) then partK P e v.cells (n.toNat * szOf P e) K else .fail
    | some .string, .cv (.one (.val (.str s))) =>
      bif decide (0 ≤ n) && decide (n < (s.length : Int)) then K (.one (.val (.int .u8 ((s.getD n.toNat 0).toNat : Int)))) else .fail
    | _, _ => .fail

def keyOk (P : Program) (kt : TypeId) (k : AVal) : Bool := plainOk P kt k

def lookupK (P : Program) (t : TypeId) (x k : EV) (ok : Bool) (h : Heap) (K : EV → Tr R) : Tr R :=
  match P.underlying t with
  | some (.map kt et) =>
    optK x.toA fun m => optK k.toA fun k => optK (zeroOf P et) fun z =>
      bif keyOk P kt k then
        (match m with
        | .nilmap => bif ok then K (.tup [.one (.val z), .one (.val (.bool false))]) else K (.one (.val z))
        | m => bif m.isMap then
            (match h.objs[m.toId]? with
            | some (.map kt' es _) => bif kt' == kt then
              (match findK k es 0 with
              | some (_, v, _) => coerce P et v fun v => bif ok then K (.tup [.one (.val v), .one (.val (.bool true))]) else K (.one (.val v))
              | none => bif ok then K (.tup [.one (.val z), .one (.val (.bool false))]) else K (.one (.val z))) else .fail
            | _ => .fail)
          else .fail)
      else .fail
  | _ => .fail

def mapK (h : Heap) (m : AVal) (K : Nat → TypeId → List (AVal × AVal × Nat) → Nat → Tr R) : Tr R :=
  bif m.isMap then (match h.objs[m.toId]? with | some (.map kt es c) => K m.toId kt es c | _ => .fail) else .fail

def mapUpdateK (P : Program) (t : TypeId) (m k v : EV) (h : Heap) (K : Heap → Tr R) : Tr R :=
  match P.underlying t with
  | some (.map kt _) =>
    optK m.toA fun m => optK k.toA fun k => optK v.toA fun v =>
      bif keyOk P kt k then mapK h m fun id kt' es c => bif kt' == kt then
        K ⟨h.objs.set id (.map kt (putK k v es c) (bif hasK k es then c else c + 1))⟩ else .fail else .fail
  | _ => .fail

def mapEntryK (P : Program) (t : TypeId) (m k : EV) (h : Heap) (K : EV → Heap → Tr R) : Tr R :=
  match P.underlying t with
  | some (.map kt et) =>
    optK m.toA fun m => optK k.toA fun k => optK (zeroOf P et) fun z =>
      bif keyOk P kt k then mapK h m fun id kt' es c => bif kt' == kt then
        (match findK k es 0 with
        | some (_, v, b) => coerce P et v fun v => K (.tup [.one (.val v), .one (.val (.int .i64 b))]) ⟨h.objs.set id (.map kt (putK k v es c) c)⟩
        | none => K (.tup [.one (.val z), .one (.val (.int .i64 c))]) ⟨h.objs.set id (.map kt (putK k z es c) (c + 1))⟩) else .fail else .fail
  | _ => .fail

def hasBorn (b : Int) (es : List (AVal × AVal × Nat)) : Bool := es.any fun e => decide ((e.2.2 : Int) = b)
def entryStoreK (m s v : EV) (h : Heap) (K : Heap → Tr R) : Tr R :=
  optK m.toA fun m => intOf s fun b => optK v.toA fun v => mapK h m fun id kt es c =>
    bif hasBorn b es then K ⟨h.objs.set id (.map kt (setBorn b v es) c)⟩ else .fail

def deleteK (P : Program) (t : TypeId) (m k : EV) (h : Heap) (K : Heap → Tr R) : Tr R :=
  match P.underlying t with
  | some (.map kt _) =>
    optK m.toA fun m => optK k.toA fun k =>
      bif keyOk P kt k then mapK h m fun id kt' es c => bif kt' == kt then K ⟨h.objs.set id (.map kt (delK k es) c)⟩ else .fail else .fail
  | _ => .fail

def lenK (P : Program) (t : TypeId) (x : EV) (h : Heap) (K : EV → Tr R) : Tr R :=
  match P.underlying t with
  | some .string => (match x with | .cv (.one (.val (.str s))) => K (.one (.val (.int .i64 s.length))) | _ => .fail)
  | some (.slice _) => (match x.toA with | some (.sl _ _ es) => K (.one (.val (.int .i64 es.length))) | _ => .fail)
  | some (.array n _) => K (.one (.val (.int .i64 n)))
  | some (.map _ _) => optK x.toA fun m => (match m with | .nilmap => K (.one (.val (.int .i64 0))) | m => mapK h m fun _ _ es _ => K (.one (.val (.int .i64 es.length))))
  | _ => .fail

def minFrom (big : Bool) (k : IntKind) : Int → List EV → (EV → Tr R) → Tr R
  | a, [], K => K (.one (.val (.int k a)))
  | a, .cv (.one (.val (.int _ b))) :: r, K => minFrom big k (bif big then (if b > a then b else a) else (if b < a then b else a)) r K
  | _, _, _ => .fail
def minK (big : Bool) : List EV → (EV → Tr R) → Tr R
  | .cv (.one (.val (.int k a))) :: r, K => minFrom big k a r K
  | _, _ => .fail

/-! ### Words that residual texts use as well -/
def AVal.isAddr : AVal → Bool | .obj _ _ => true | .elt _ _ _ _ => true | _ => false
def AVal.shift (k : Nat) : AVal → AVal | .obj id off => .obj id (off + k) | .elt e ag sz off => .elt e ag sz (off + k) | v => v
/-- A look behind any pointer; 'agt', 'n': whether an aggregate is looked at, and how many cells it has. -/
def ptrLdK (agt : Bool) (n : Nat) (v : AVal) (h : Heap) (K : AVal → Tr R) : Tr R :=
  match v with
  | .obj id off => bif agt then optK (h.cells? id off n) fun cs => K (.agg cs) else optK (h.cell? id off) fun c => K c.toA
  | .elt e ag sz off =>
    bif sz == n && (ag == agt) && off == 0 then K e else
    bif ag then
      (bif agt then (bif decide (off + n ≤ e.cells.length) then K (.agg ((e.cells.drop off).take n)) else .fail)
      else optK (e.cells[off]?) K)
    else .fail
  | _ => .fail
def ptrLoadK (P : Program) (t : TypeId) (v : AVal) (h : Heap) (K : AVal → Tr R) : Tr R := ptrLdK (aggT P t) (szOf P t) v h K
/-- What is put into a managed cell. -/
def hcellK (s : SV) (K : HCell → Option Nat → Tr R) : Tr R :=
  match s with
  | .val v => bif v.isAgg then .fail else K (.val v) none
  | .own g sz es => K (.own sz es) (some g)
  | .bor _ _ sz es => K (.val (.sl false sz es)) none
  | .loc _ _ | .lsl _ | .unk => .fail
/-- Cells that are put one behind the other into a managed object. -/
def putCellsK (h : Heap) (id off n : Nat) (vs : List AVal) (K : Heap → Tr R) : Tr R :=
  optK (h.cells? id off n) fun _ =>
    (match h.objs[id]? with
    | some (.cells cs) => bif noOwn n off cs then K ⟨h.objs.set id (.cells (spliceAt off (vs.map .val) cs))⟩ else .fail
    | _ => .fail)
def storeK' (P : Program) (t : TypeId) (a x : EV) (fr : Fr) (h : Heap) (K : Fr → Heap → Tr R) : Tr R :=
  match a with
  | .cv (.one (.val (.obj id off))) =>
    bif decide (0 < szOf P t) && (aggT P t || szOf P t == 1) then
      (bif aggT P t then optK x.toA fun v => bif v.isAggOf (szOf P t) then putCellsK h id off (szOf P t) v.cells fun h => K (fr.mapS SV.unbor) h else .fail
      else
        (match x with
        | .cv (.one s) => hcellK s fun c g => optK (h.cell? id off) fun _ => K ((stripO g fr).mapS SV.unbor) (h.setCell id off c)
        | _ => .fail)) else .fail
  | a => storeK P t a x fr h K
def loadK' (P : Program) (t : TypeId) (a : EV) (fr : Fr) (h : Heap) (K : EV → Tr R) : Tr R :=
  match a with
  | .cv (.one (.val v)) =>
    (match P.underlying t with
    | some (.slice _) => loadK P t (.cv (.one (.val v))) fr h K
    | _ => ptrLoadK P t v h fun w => coerce P t w fun w => K (.one (.val w)))
  | a => loadK P t a fr h K
def fieldAddrK' (P : Program) (s : TypeId) (x : EV) (f : Nat) (K : EV → Tr R) : Tr R :=
  match x with
  | .cv (.one (.val v)) =>
    (match P.underlying s with
    | some (.struct fs) =>
      (match fs[f]? with
      | some fd => bif szOf P fd.type == 0 then .fail else bif v.isAddr then K (.one (.val (v.shift fd.offset))) else .fail
      | none => .fail)
    | _ => .fail)
  | x => fieldAddrK P s x f K
def nilCheckK (x : EV) (K : EV → Tr R) : Tr R :=
  match x with
  | .cv (.one (.loc d off)) => K (.one (.loc d off))
  | .cv (.one (.val v)) => bif v.isAddr || v.isFn then K (.one (.val v)) else .fail
  | _ => .fail
/-- A frozen object of 'n' cells: a pointer to one is told with its cells. -/
def nodeW (n : Nat) (v : AVal) (K : List AVal → Tr R) : Tr R :=
  match v with
  | .elt (.agg cs) true sz 0 => bif sz == n then K cs else .fail
  | _ => .fail
def nodeK (n : Option Nat) (x : EV) (K : EV → Tr R) : Tr R :=
  match n with
  | none => K x
  | some n => (match x with | .cv (.one (.val v)) => nodeW n v fun cs => K (.one (.val (.elt (.agg cs) true n 0))) | _ => .fail)
/-- Two values compared or reckoned with; with nil first of all. -/
def binK' (P : Program) (op : BinOp) (t : TypeId) (x y : AVal) (K : AVal → Tr R) : Tr R :=
  match y with
  | .nilp =>
    (match op, P.underlying t with
    | .eql, some (.pointer _) => bif x.isPtr then K (.bool x.isNilp) else .fail
    | .neq, some (.pointer _) => bif x.isPtr then K (.bool (!x.isNilp)) else .fail
    | _, _ => .fail)
  | y => binK P op t x y K
/-- A look into a map. -/
def lookK (kt : TypeId) (z m k : AVal) (h : Heap) (K : AVal → Bool → Tr R) : Tr R :=
  match m with
  | .nilmap => K z false
  | .map id =>
    (match h.objs[id]? with
    | some (.map kt' es _) => bif kt' == kt then (match findK k es 0 with | some (_, v, _) => K v true | none => K z false) else .fail
    | _ => .fail)
  | _ => .fail
def notSlice (P : Program) (t : TypeId) : Bool := match P.underlying t with | some (.slice _) => false | _ => true
def lookupK' (P : Program) (t : TypeId) (x k : EV) (ok : Bool) (h : Heap) (K : EV → Tr R) : Tr R :=
  match P.underlying t with
  | some (.map kt et) =>
    optK x.toA fun m => optK k.toA fun k => optK (zeroOf P et) fun z =>
      bif keyOk P kt k && notSlice P et then
        lookK kt z m k h fun v b => coerce P et v fun v => bif ok then K (.tup [.one (.val v), .one (.val (.bool b))]) else K (.one (.val v))
      else .fail
  | _ => .fail
def updK (kt : TypeId) (m k v : AVal) (h : Heap) (K : Heap → Tr R) : Tr R :=
  mapK h m fun id kt' es c => bif kt' == kt then K ⟨h.objs.set id (.map kt (putK k v es c) (bif hasK k es then c else c + 1))⟩ else .fail
def entryK (kt : TypeId) (z m k : AVal) (h : Heap) (K : AVal → Nat → Heap → Tr R) : Tr R :=
  mapK h m fun id kt' es c => bif kt' == kt then
    (match findK k es 0 with
    | some (_, v, b) => K v b ⟨h.objs.set id (.map kt (putK k v es c) c)⟩
    | none => K z c ⟨h.objs.set id (.map kt (putK k z es c) (c + 1))⟩) else .fail
def mapEntryK' (P : Program) (t : TypeId) (m k : EV) (h : Heap) (K : EV → Heap → Tr R) : Tr R :=
  match P.underlying t with
  | some (.map kt et) =>
    optK m.toA fun m => optK k.toA fun k => optK (zeroOf P et) fun z =>
      bif keyOk P kt k && notSlice P et then entryK kt z m k h fun v b h => coerce P et v fun v => K (.tup [.one (.val v), .one (.val (.int .i64 b))]) h else .fail
  | _ => .fail
def mapLenK (m : AVal) (h : Heap) (K : Nat → Tr R) : Tr R :=
  match m with
  | .nilmap => K 0
  | .map id => (match h.objs[id]? with | some (.map _ es _) => K es.length | _ => .fail)
  | _ => .fail
def lenK' (P : Program) (t : TypeId) (x : EV) (h : Heap) (K : EV → Tr R) : Tr R :=
  match P.underlying t with
  | some (.map _ _) => optK x.toA fun m => mapLenK m h fun n => K (.one (.val (.int .i64 n)))
  | _ => lenK P t x h K
/-- A slice literal's elements. -/
def elemsK (ag : Bool) (sz : Nat) (es : List AVal) : List (Nat × AVal) → (List AVal → Tr R) → Tr R
  | [], K => K es
  | (i, v) :: r, K => bif (bif ag then v.isAggOf sz else !v.isAgg) && decide (i < es.length) then elemsK ag sz (es.set i v) r K else .fail
def buildSliceK' (P : Program) (t : TypeId) (len : Nat) (parts : List (Nat × EV)) (K : EV → Tr R) : Tr R :=
  match P.underlying t with
  | some (.slice e) =>
    bif elOk P e && decide (len * szOf P e ≤ 16777216) then
      optK (zeroOf P e) fun z => bif (bif aggT P e then z.isAggOf (szOf P e) else !z.isAgg) then
        optK (toAs parts) fun ps => elemsK (aggT P e) (szOf P e) (List.replicate len z) ps fun es => K (.one (.val (.sl true (shp P e) es)))
      else .fail
    else .fail
  | _ => .fail
def spliceN {α : Type} (off sz : Nat) (new l : List α) : List α := l.take off ++ new ++ l.drop (off + sz)
/-- A literal's cells. 'ag': which of its parts are aggregates. -/
def fillAK (place : Nat → Option (Nat × Nat)) (ag : Nat → Bool) (cs : List AVal) : List (Nat × AVal) → (List AVal → Tr R) → Tr R
  | [], K => K cs
  | (i, v) :: r, K =>
    match place i with
    | some (off, sz) => bif decide (0 < sz) && ((bif ag i then v.isAggOf sz else !v.isAgg && sz == 1) && decide (off + sz ≤ cs.length)) then fillAK place ag (spliceN off sz (bif ag i then v.cells else [v]) cs) r K else .fail
    | none => .fail
def agOf (P : Program) (t : TypeId) : Nat → Bool :=
  match P.underlying t with
  | some (.struct fs) => fun i => (match fs[i]? with | some f => aggT P f.type | none => false)
  | some (.array _ e) => fun _ => aggT P e
  | _ => fun _ => false
def buildK' (P : Program) (rich : Bool) (t : TypeId) (parts : List (Nat × EV)) (K : EV → Tr R) : Tr R :=
  bif rich then buildK P rich t parts K else
    optK (zeroOf P t) fun z => optK (placeOf P t) fun place => optK (toAs parts) fun ps => fillAK place (agOf P t) z.cells ps fun l => K (.one (.val (.agg l)))

/-- append: what is appended to must own its end. -/
def appendSrc (P : Program) (et : TypeId) : EV → Option (List AVal)
  | .cv (.one (.val (.str s))) => (match P.underlying et with | some (.int .u8) => some (s.map ofByte) | _ => none)
  | x => (match x.toA with | some (.sl _ sz es) => bif sz == shp P et || es.isEmpty then some es else none | _ => none)

/-- What a managed cell lends is appended to: it is owned there, or nobody's end. -/
def lentK (h : Heap) (id off sz : Nat) (es : List AVal) (K : Heap → Tr R) : Tr R :=
  match h.cell? id off with
  | some (.own sz' _) => bif sz' == sz then K (h.setCell id off (.val (.sl false sz es))) else .fail
  | some (.val (.sl true _ _)) => K h
  | _ => .fail
def appendK (P : Program) (ts : List TypeId) (dst : Option Nat) (x y : EV) (fr : Fr) (h : Heap) (K : Fr → Heap → Tr R) : Tr R :=
  match ts, dst with
  | [t, ty], some d =>
    (match P.underlying t, P.underlying ty with
    | some (.slice _), some (.int _) => .fail
    | some (.slice e), some _ =>
      optK (appendSrc P e y) fun ys =>
        (match x with
        | .cv (.one s) =>
          (match s.toA with
          | some (.sl full sz es) =>
            bif elOk P e && (sz == shp P e || es.isEmpty) && decide (0 < bytesOf P e) && decide ((es.length + ys.length) * bytesOf P e ≤ 140737488355328) then
              (match s with
              | .own g z _ => bif !(z == shp P e) || (fr.mapS (SV.strip g)).any (SV.has (tokOf d 0)) then .fail else
                  K ((fr.mapS (SV.strip g)).set d (.one (.own (tokOf d 0) (shp P e) (es ++ ys)))) h
              | .bor id off _ _ => bif (fr.mapS SV.unbor).any (SV.has (tokOf d 0)) then .fail else
                  lentK h id off (shp P e) es fun h => K ((fr.mapS SV.unbor).set d (.one (.own (tokOf d 0) (shp P e) (es ++ ys)))) h
              | _ => bif full then (bif fr.any (SV.has (tokOf d 0)) then .fail else K (fr.set d (.one (.own (tokOf d 0) (shp P e) (es ++ ys)))) h) else .fail)
            else .fail
          | _ => .fail)
        | _ => .fail)
    | _, _ => .fail)
  | _, _ => .fail

/-- Arguments: what the callee takes over is owned here, and is not behind the call. The tokens: the callee's, the caller's. -/
def argsOf (l : List Nat) : Nat → List EV → Option (List AVal × List (Nat × Nat))
  | _, [] => some ([], [])
  | i, x :: r =>
    match x.toA, argsOf l (i + 1) r with
    | some v, some (vs, ts) =>
      bif l.contains i then
        (match x with
        | .cv (.one (.own g _ _)) => some (v :: vs, (tokOf i 0, g) :: ts)
        | .cv (.one (.val (.sl true _ _))) => some (v :: vs, ts)
        | _ => none)
      else some (v :: vs, ts)
    | _, _ => none

/-- A value that comes in, owned where it is said to be. -/
def cvIn (own : Bool) (g : Nat) (v : AVal) : CV :=
  bif own then (match v with | .sl false sz es => .one (.own g sz es) | v => .one (.val v)) else .one (.val v)

def resK (P : Program) (l : List Nat) (d i : Nat) (t : TypeId) (v : AVal) (K : CV → Tr R) : Tr R :=
  bif l.contains i then
    (match P.underlying t with
    | some (.slice e) => bif v.isSlO (shp P e) then K (.one (.own (tokOf d i) (shp P e) v.toEs)) else .fail
    | _ => .fail)
  else coerce P t v fun v => K (.one (.val v))
def consK (l : List AVal) (K : AVal → List AVal → Tr R) : Tr R := match l with | v :: vs => K v vs | [] => .fail
def nilK (l : List AVal) (K : Tr R) : Tr R := match l with | [] => K | _ :: _ => .fail
def ressK (P : Program) (l : List Nat) (d : Nat) : Nat → List TypeId → List AVal → (List CV → Tr R) → Tr R
  | _, [], vs, K => nilK vs (K [])
  | i, t :: ts, vs, K => consK vs fun v vs => resK P l d i t v fun c => ressK P l d (i + 1) ts vs fun cs => K (c :: cs)
def evOf : List CV → EV
  | [c] => .cv c
  | cs => .tup cs

/-- The frame behind a call. -/
def handK (gs toks : List Nat) (d : Nat) (e : EV) (fr : Fr) (h : Heap) (K : Fr → Heap → Tr R) : Tr R :=
  bif toks.any (fun g => (fr.mapS (SV.strips gs)).any (SV.has g)) then .fail else K (((fr.mapS (SV.strips gs)).mapS SV.unbor).set d e) h

def callK (C : Cfg) (call : FuncId → List AVal → Heap → Tr Res) (f : FuncId) (xs : List EV) (dst : Option Nat) (fr : Fr) (h : Heap) (K : Fr → Heap → Tr Res) : Tr Res :=
  match dst, C.P.funcs[f]? with
  | some d, some fn =>
    bif fn.body.isSome && (fn.name != "runtime.NumGoroutine") then
      optK (argsOf (C.ann f).pown 0 xs) fun a =>
        bif nodup (a.2.map (·.1)) && nodup (a.2.map (·.2)) then
          (call f a.1 h).bind fun r =>
            ressK C.P (C.ann f).rown d 0 fn.resultTypes.toList r.1 fun cs => handK (a.2.map (·.2)) (cs.flatMap CV.toks) d (evOf cs) fr r.2 K
        else .fail
    else .fail
  | _, _ => .fail

def evList (fr : Fr) (xs : Array Operand) : List EV := xs.toList.map fr.opnd

/-- Package-level variables that are told. -/
def Cfg.opnd (C : Cfg) (fr : Fr) (x : Operand) : EV :=
  match x with
  | .global g => (match C.glob g with | some a => .one (.val a) | none => fr.opnd x)
  | _ => fr.opnd x
def opK (C : Cfg) (A : Ann) (call : FuncId → List AVal → Heap → Tr Res) (o : Oper) (fr : Fr) (h : Heap) (K : Fr → Heap → Tr Res) : Tr Res :=
  let P := C.P
  let put (v : EV) : Tr Res := K (fr.put o.dst v) h
  match o.op with
  | .move x | .assign x => put (fr.opnd x)
  | .pick c a b =>
    (match fr.opnd c with
    | .cv (.one (.val (.bool t))) => bif t then put (fr.opnd a) else put (fr.opnd b)
    | _ => .fail)
  | .alloc t => optK (zeroOf P t) fun z => newK P A o.dst t (.one (.val z)) fr h K
  | .box t x => newK P A o.dst t (fr.opnd x) fr h K
  | .build t parts => buildK' P (match o.dst with | some d => A.rich.contains d | none => false) t (parts.toList.map fun p => (p.1, fr.opnd p.2)) put
  | .buildSlice t len parts => buildSliceK' P t len (parts.toList.map fun p => (p.1, fr.opnd p.2)) put
  | .load t a => loadK' P t (fr.opnd a) fr h put
  | .store t a x => storeK' P t (fr.opnd a) (fr.opnd x) fr h fun fr h => K (fr.put o.dst (.tup [])) h
  | .nilCheck x => nodeK (o.dst.bind fun d => look d A.node) (fr.opnd x) fun x => nilCheckK x put
  | .binOp op t x y _ => optK (fr.opnd x).toA fun a => optK (fr.opnd y).toA fun b => binK' P op t a b fun v => put (.one (.val v))
  | .unOp op _ x => optK (fr.opnd x).toA fun a => unK op a fun v => put (.one (.val v))
  | .convert s t x => optK (fr.opnd x).toA fun a => convK P s t a fun v => put (.one (.val v))
  | .makeFunc (.func f) first cap =>
    optK (optAll ((evList fr first).map EV.toA)) fun vs => optK (optAll ((evList fr cap).map EV.toA)) fun ws => put (.one (.val (.fn f vs ws)))
  | .makeMap t none => (match P.underlying t with
    | some (.map kt _) => K (fr.put o.dst (.one (.val (.map h.objs.length)))) (h.push (.map kt [] 0))
    | _ => .fail)
  | .slice t x lo hi mx => sliceK P t (fr.opnd x) (lo.map fr.opnd) (hi.map fr.opnd) (mx.map fr.opnd) put
  | .fieldAddr s x f => fieldAddrK' P s (fr.opnd x) f put
  | .field t x f => fieldK P t (fr.opnd x) f put
  | .indexAddr t x i => indexAddrK P t (C.opnd fr x) (fr.opnd i) put
  | .index t x i => indexK P t (fr.opnd x) (fr.opnd i) put
  | .lookup t x k ok => lookupK' P t (fr.opnd x) (fr.opnd k) ok h put
  | .mapUpdate t m k v | .insert t m k v => mapUpdateK P t (fr.opnd m) (fr.opnd k) (fr.opnd v) h fun h => K ((fr.mapS SV.unbor).put o.dst (.tup [])) h
  | .mapEntry t m k => mapEntryK' P t (fr.opnd m) (fr.opnd k) h fun v h => K ((fr.mapS SV.unbor).put o.dst v) h
  | .entryStore _ m s v => entryStoreK (fr.opnd m) (fr.opnd s) (fr.opnd v) h fun h => K ((fr.mapS SV.unbor).put o.dst (.tup [])) h
  | .extract x i => (match fr.opnd x with | .tup l => optK (l[i]?) fun c => put (.cv c) | _ => .fail)
  | .call c =>
    (match c.callee with
    | .value f =>
      (match fr.opnd f with
      | .cv (.one (.val (.fn f first cap))) => callK C call f ((first.map fun v => .one (.val v)) ++ evList fr c.args ++ cap.map fun v => .one (.val v)) o.dst fr h K
      | _ => .fail)
    | .builtin .len => (match c.argTypes.toList, evList fr c.args with | t :: _, x :: _ => lenK' P t x h put | _, _ => .fail)
    | .builtin .append => (match evList fr c.args with | [x, y] => appendK P c.argTypes.toList o.dst x y fr h K | _ => .fail)
    | .builtin .min => minK false (evList fr c.args) put
    | .builtin .max => minK true (evList fr c.args) put
    | .builtin .delete => (match c.argTypes.toList, evList fr c.args with | t :: _, [m, k] => deleteK P t m k h fun h => K ((fr.mapS SV.unbor).put o.dst (.tup [])) h | _, _ => .fail)
    | _ => .fail)
  | _ => .fail

/-- One operation, under its guard. 'ops': the region. -/
def oneK (C : Cfg) (A : Ann) (call : FuncId → List AVal → Heap → Tr Res) (ops : Array Oper) (o : Oper) (fr : Fr) (h : Heap) (K : Fr → Heap → Tr Res) : Tr Res :=
  match o.guard with
  | none => opK C A call o fr h K
  | some (j, want) =>
    match (ops[j]?).bind (·.dst) with
    | none => .fail
    | some s =>
      match fr.get s with
      | .cv (.one (.val (.bool b))) =>
        bif b then
          (bif want then opK C A call o (fr.set s (.one (.val (.bool true)))) h K else K ((fr.set s (.one (.val (.bool true)))).put o.dst (.tup [])) h)
        else
          (bif want then K ((fr.set s (.one (.val (.bool false)))).put o.dst (.tup [])) h else opK C A call o (fr.set s (.one (.val (.bool false)))) h K)
      | .tup [] => K (fr.put o.dst (.tup [])) h
      | _ => .fail

/-! ### Slices that are the frame's own: their elements are stored into -/
def SV.frz (d g sz : Nat) (es : List AVal) : SV → SV
  | .lsl d' => bif d' == d then .own g sz es else .lsl d'
  | .loc d' off => bif d' == d then .unk else .loc d' off
  | s => s
/-- No word of a variable is left. -/
def SV.noLoc (d : Nat) : SV → SV
  | .lsl d' => bif d' == d then .unk else .lsl d'
  | .loc d' off => bif d' == d then .unk else .loc d' off
  | s => s
def delB (d : Nat) : List (Nat × Box) → List (Nat × Box)
  | [] => []
  | (k, b) :: r => bif k == d then delB d r else (k, b) :: delB d r
def Fr.del (d : Nat) (fr : Fr) : Fr := ⟨fr.env, delB d fr.boxes⟩
/-- The frame's own array is a slice again, as all are. -/
def frzK (d : Nat) (fr : Fr) (K : Fr → Tr R) : Tr R :=
  match look d fr.boxes with
  | some (.arr sz es) => bif fr.any (SV.has (tokOf d 1)) then .fail else K ((fr.del d).mapS (SV.frz d (tokOf d 1) sz es))
  | _ => .fail
def frzL : List Operand → Fr → (Fr → Tr R) → Tr R
  | [], fr, K => K fr
  | x :: r, fr, K => match fr.opnd x with | .cv (.one (.lsl d)) => frzK d fr fun fr => frzL r fr K | _ => frzL r fr K
def opsOf : Op → List Operand
  | .pick _ a b => [a, b]
  | .box _ x => [x]
  | .build _ ps => ps.toList.map (·.2)
  | .buildSlice _ _ ps => ps.toList.map (·.2)
  | .store _ _ x => [x]
  | .convert _ _ x => [x]
  | .makeFunc _ f c => f.toList ++ c.toList
  | .slice _ x _ _ _ => [x]
  | .mapUpdate _ _ _ v => [v]
  | .insert _ _ _ v => [v]
  | .entryStore _ _ _ v => [v]
  | .call c => c.args.toList
  | _ => []
def mulC (n k : Nat) : Nat := bif k == 1 then n else n * k
def divC (n k : Nat) : Nat := bif k == 1 then n else n / k
def alignC (n k : Nat) : Bool := bif k == 1 then true else decide (n / k * k = n)
def thawAt (A : Ann) (dst : Option Nat) : Bool := match dst with | some d => A.thaw.contains d | none => false
/-- An operation, where a slice may be the frame's own. -/
def opX (C : Cfg) (A : Ann) (call : FuncId → List AVal → Heap → Tr Res) (o : Oper) (fr : Fr) (h : Heap) (K : Fr → Heap → Tr Res) : Tr Res :=
  let P := C.P
  let old : Tr Res := frzL (opsOf o.op) fr fun fr => opK C A call o fr h K
  match o.op with
  | .move x | .assign x =>
    bif thawAt A o.dst then frzL [x] fr fun fr => opK C A call o fr h K else opK C A call o fr h K
  | .buildSlice t len parts =>
    (match o.dst with
    | some d =>
      bif A.xs.contains d then
        buildSliceK P t len (parts.toList.map fun p => (p.1, fr.opnd p.2)) fun e =>
          (match e with
          | .cv (.one (.val (.sl _ sz es))) => bif fr.any (SV.hasLoc d) then .fail else K ((fr.setBox d (.arr sz es)).set d (.one (.lsl d))) h
          | _ => .fail)
      else old
    | none => old)
  | .load t a =>
    (match fr.opnd a with
    | .cv (.one (.loc d off)) =>
      (match look d fr.boxes with
      | some (.arr sz es) =>
        bif elOk P t && sz == shp P t && alignC off (szOf P t) && decide (divC off (szOf P t) < es.length) then
          coerce P t (es.getD (divC off (szOf P t)) .undef) fun v => K (fr.put o.dst (.one (.val v))) h
        else .fail
      | _ => old)
    | _ => old)
  | .store t a x =>
    (match fr.opnd a with
    | .cv (.one (.loc d off)) =>
      (match look d fr.boxes with
      | some (.arr sz es) =>
        optK (fr.opnd x).toA fun v =>
          bif elOk P t && sz == shp P t && alignC off (szOf P t) && decide (divC off (szOf P t) < es.length) && (bif aggT P t then v.isAggOf (szOf P t) else !v.isAgg) then
            K ((fr.setBox d (.arr sz (es.set (divC off (szOf P t)) v))).put o.dst (.tup [])) h
          else .fail
      | _ => old)
    | _ => old)
  | .indexAddr t x i =>
    (match C.opnd fr x with
    | .cv (.one (.lsl d)) =>
      (match P.underlying t, look d fr.boxes with
      | some (.slice e), some (.arr sz es) =>
        intOf (fr.opnd i) fun n => bif elOk P e && sz == shp P e && (decide (0 ≤ n) && decide (n < (es.length : Int))) then K (fr.put o.dst (.one (.loc d (mulC n.toNat (szOf P e))))) h else .fail
      | _, _ => .fail)
    | _ => old)
  | .convert s t x =>
    (match fr.opnd x with
    | .cv (.one (.lsl d)) =>
      (match P.underlying s, P.underlying t, look d fr.boxes with
      | some (.slice e), some (.slice _), some (.arr sz es) =>
        (match P.underlying e with
        | some (.int .u8) => bif s == t then K (((fr.del d).mapS (SV.noLoc d)).put o.dst (.one (.val (.sl false sz es)))) h else .fail
        | _ => .fail)
      | _, _, _ => old)
    | _ => old)
  | .call c =>
    (match c.callee with
    | .builtin .len =>
      (match c.argTypes.toList, evList fr c.args with
      | t :: _, .cv (.one (.lsl d)) :: _ =>
        (match P.underlying t, look d fr.boxes with
        | some (.slice _), some (.arr _ es) => K (fr.put o.dst (.one (.val (.int .i64 es.length)))) h
        | _, _ => .fail)
      | _, _ => old)
    | .builtin .append =>
      (match c.argTypes.toList, evList fr c.args, o.dst with
      | [t, ty], [.cv (.one (.lsl d)), y], some s =>
        (match P.underlying t, P.underlying ty, look d fr.boxes with
        | some (.slice _), some (.int _), _ => .fail
        | some (.slice e), some _, some (.arr sz es) =>
          optK (appendSrc P e y) fun ys =>
            bif elOk P e && sz == shp P e && decide (0 < bytesOf P e) && decide ((es.length + ys.length) * bytesOf P e ≤ 140737488355328) then
              K ((((fr.mapS (SV.noLoc d)).setBox d (.arr sz (es ++ ys)))).set s (.one (.lsl d))) h
            else .fail
        | _, _, _ => .fail)
      | _, _, _ => old)
    | _ => old)
  | _ => old
/-- One operation, under its guard, where a slice may be the frame's own. -/
def oneX (C : Cfg) (A : Ann) (call : FuncId → List AVal → Heap → Tr Res) (ops : Array Oper) (o : Oper) (fr : Fr) (h : Heap) (K : Fr → Heap → Tr Res) : Tr Res :=
  match o.guard with
  | none => opX C A call o fr h K
  | some (j, want) =>
    match (ops[j]?).bind (·.dst) with
    | none => .fail
    | some s =>
      match fr.get s with
      | .cv (.one (.val (.bool b))) =>
        bif b then
          (bif want then opX C A call o (fr.set s (.one (.val (.bool true)))) h K else K ((fr.set s (.one (.val (.bool true)))).put o.dst (.tup [])) h)
        else
          (bif want then K ((fr.set s (.one (.val (.bool false)))).put o.dst (.tup [])) h else opX C A call o (fr.set s (.one (.val (.bool false)))) h K)
      | .tup [] => K (fr.put o.dst (.tup [])) h
      | _ => .fail

def opsK (C : Cfg) (A : Ann) (call : FuncId → List AVal → Heap → Tr Res) (ops : Array Oper) : List Oper → Fr → Heap → (Fr → Heap → Tr Res) → Tr Res
  | [], fr, h, K => K fr h
  | o :: r, fr, h, K => oneK C A call ops o fr h fun fr h => opsK C A call ops r fr h K
def opsX (C : Cfg) (A : Ann) (call : FuncId → List AVal → Heap → Tr Res) (ops : Array Oper) : List Oper → Fr → Heap → (Fr → Heap → Tr Res) → Tr Res
  | [], fr, h, K => K fr h
  | o :: r, fr, h, K => oneX C A call ops o fr h fun fr h => opsX C A call ops r fr h K

/-! ### A region of which the order is free -/
/-- Operations that neither look at the memory nor change it. -/
def stillOp (P : Program) (o : Oper) : Bool :=
  match o.op with
  | .move _ | .assign _ | .pick _ _ _ | .build _ _ | .nilCheck _ | .binOp _ _ _ _ _ | .unOp _ _ _ | .makeFunc (.func _) _ _ | .slice _ _ _ _ _ | .fieldAddr _ _ _ | .field _ _ _
  | .indexAddr _ _ _ | .index _ _ _ | .extract _ _ => true
  | .convert s t _ => (match P.underlying t with | some (.int _) => true | some .string => (match P.underlying s with | some .string => true | _ => false) | _ => false)
  | .call c => (match c.callee with
    | .builtin .len => (match c.argTypes.toList with | t :: _ => (match P.underlying t with | some (.slice _) | some .string => true | _ => false) | _ => false)
    | .builtin .min | .builtin .max => true
    | _ => false)
  | _ => false

def readyAt (ops : Array Oper) (l : List Bool) (i : Nat) : Bool :=
  !(l.getD i true) && (match ops[i]? with | some o => o.after.toList.all (fun e => !(Region.binds .any e) || l.getD e.on false) | none => false)
def readyL (ops : Array Oper) (l : List Bool) : List Nat := (List.range ops.size).filter (readyAt ops l)
def freeAt (ops : Array Oper) (l : List Bool) (i : Nat) (oi : Oper) : Bool :=
  (List.range ops.size).all fun j => j == i || l.getD j true || (match ops[j]? with
    | some oj => oj.after.toList.any (fun e => Region.binds .any e && e.on == i) || oi.apart ops oj
    | none => true)
def noSel (ops : Array Oper) : Bool := ops.toList.all fun o => match o.op with | .select _ _ => false | _ => true
/-- Operations that look at the memory and leave it. -/
def isRead (P : Program) (o : Oper) : Bool :=
  match o.op with
  | .load _ _ => true
  | .convert s t _ => (match P.underlying s, P.underlying t with | some (.slice _), some .string => true | _, _ => false)
  | _ => false
def isCall (o : Oper) : Bool := match o.op with | .call c => (match c.callee with | .value _ => true | _ => false) | _ => false
/-- Operations that only bring new memory, or fill what is owned. -/
def isGrow (o : Oper) : Bool :=
  match o.op with
  | .buildSlice _ _ _ => true
  | .call c => (match c.callee with | .builtin .append => true | _ => false)
  | _ => false
def mildOp (P : Program) (o : Oper) : Bool := stillOp P o || isRead P o || isCall o || isGrow o
def notObj : EV → Bool | .cv (.one (.val (.obj _ _))) => false | _ => true
/-- A look at what no call turns. -/
def readNow (P : Program) (fr : Fr) (o : Oper) : Bool := match o.op with | .load _ a => notObj (fr.opnd a) | _ => isRead P o
def freeR (P : Program) (ops : Array Oper) (l : List Bool) (i : Nat) (oi : Oper) : Bool :=
  (List.range ops.size).all fun j => j == i || l.getD j true || (match ops[j]? with
    | some oj => oj.after.toList.any (fun e => Region.binds .any e && e.on == i) || (oi.apart ops oj && mildOp P oj)
    | none => true)
/-- Looks at managed objects. -/
def isLook (o : Oper) : Bool := match o.op with | .load _ _ | .lookup _ _ _ _ => true | _ => false
/-- Operations that leave the memory as it is. -/
def quietOp (P : Program) (o : Oper) : Bool := stillOp P o || isRead P o || isLook o
def freeQ (P : Program) (ops : Array Oper) (l : List Bool) (i : Nat) (oi : Oper) : Bool :=
  (List.range ops.size).all fun j => j == i || l.getD j true || (match ops[j]? with
    | some oj => oj.after.toList.any (fun e => Region.binds .any e && e.on == i) || (oi.apart ops oj && quietOp P oj)
    | none => true)
def takeAt (P : Program) (ops : Array Oper) (l : List Bool) (fr : Fr) (i : Nat) : Bool :=
  match ops[i]? with | some o => (stillOp P o && freeAt ops l i o) || (readNow P fr o && freeR P ops l i o) || (isLook o && freeQ P ops l i o) | none => false

def anyK (C : Cfg) (A : Ann) (call : FuncId → List AVal → Heap → Tr Res) (ops : Array Oper) : Nat → List Bool → Fr → Heap → (Fr → Heap → Tr Res) → Tr Res
  | 0, l, fr, h, K => bif (readyL ops l).isEmpty then K fr h else .fail
  | n + 1, l, fr, h, K =>
    match readyL ops l with
    | [] => K fr h
    | i :: is =>
      (match (i :: is).find? (takeAt C.P ops l fr) with
      | some j => (match ops[j]? with | some o => oneK C A call ops o fr h fun fr h => anyK C A call ops n (l.set j true) fr h K | none => .fail)
      | none =>
        (match is with
        | [] => (match ops[i]? with | some o => oneK C A call ops o fr h fun fr h => anyK C A call ops n (l.set i true) fr h K | none => .fail)
        | is => Tr.anyL ((i :: is).map fun j => match ops[j]? with | some o => oneK C A call ops o fr h fun fr h => anyK C A call ops n (l.set j true) fr h K | none => .fail)))

/-- A region: chosen once. (A name of its own: so that nothing compares both roads.) -/
def opsS (C : Cfg) (A : Ann) (call : FuncId → List AVal → Heap → Tr Res) (ops : Array Oper) (fr : Fr) (h : Heap) (K : Fr → Heap → Tr Res) : Tr Res :=
  match A.xs with
  | [] => opsK C A call ops ops.toList fr h K
  | _ :: _ => opsX C A call ops ops.toList fr h K
def anyS (C : Cfg) (A : Ann) (call : FuncId → List AVal → Heap → Tr Res) (ops : Array Oper) (fr : Fr) (h : Heap) (K : Fr → Heap → Tr Res) : Tr Res :=
  match A.xs with
  | [] => anyK C A call ops ops.size (List.replicate ops.size false) fr h K
  | _ :: _ => frzL (ops.toList.flatMap fun o => opsOf o.op) fr fun fr => anyK C A call ops ops.size (List.replicate ops.size false) fr h K

inductive Ex where
  | normal
  | exit (id : Nat)
  | goto (l : Nat)
  | ret

def seqK (next : Fr → Heap → Tr Res) (K : Ex → Fr → Heap → Tr Res) (e : Ex) (fr : Fr) (h : Heap) : Tr Res :=
  match e with
  | .normal => next fr h
  | e => K e fr h
def loopK (ks : Fr → Fr) (body : Fr → Heap → (Ex → Fr → Heap → Tr Res) → Tr Res) : Nat → Fr → Heap → (Ex → Fr → Heap → Tr Res) → Tr Res
  | 0, _, _, _ => .fail
  | n + 1, fr, h, K => body fr h (seqK (fun fr h => loopK ks body n (ks fr) h K) K)

def blockK (id : Nat) (K : Ex → Fr → Heap → Tr Res) (e : Ex) (fr : Fr) (h : Heap) : Tr Res :=
  match e with
  | .exit i => bif i == id then K .normal fr h else K (.exit i) fr h
  | e => K e fr h
def scopeK (A : Ann) (again : Code → Code → Fr → Heap → (Ex → Fr → Heap → Tr Res) → Tr Res) (body : Code) (K : Ex → Fr → Heap → Tr Res) (e : Ex) (fr : Fr) (h : Heap) : Tr Res :=
  match e with
  | .goto l => (match findLabel body l with | some rest => again rest body (keepAt A rest fr) h K | none => K (.goto l) fr h)
  | e => K e fr h

/-- As many rounds as are wanted. (By choice: so that no reduction counts them down.) -/
noncomputable def rounds : Nat := Classical.choose (⟨4611686018427387904, Nat.le_refl _⟩ : ∃ n : Nat, 4611686018427387904 ≤ n)
theorem rounds_ge : 4611686018427387904 ≤ rounds := Classical.choose_spec (⟨4611686018427387904, Nat.le_refl _⟩ : ∃ n : Nat, 4611686018427387904 ≤ n)

/-- A place where branches meet: no reduction goes on past it. -/
noncomputable def hold {α : Type} (x : α) : α := Nat.rec x (fun _ r => r) rounds
theorem hold_eq {α : Type} (x : α) : hold x = x := by
  unfold hold
  generalize rounds = n
  induction n with
  | zero => rfl
  | succ n ih => exact ih
noncomputable def joinK (A : Ann) (c : Code) (x : Tr Res) : Tr Res :=
  match firstRegion c with
  | some id => bif A.join.contains id then hold x else x
  | none => x
theorem joinK_eq (A : Ann) (c : Code) (x : Tr Res) : joinK A c x = x := by
  unfold joinK
  split
  · cases A.join.contains _
    · rfl
    · exact hold_eq x
  · rfl

noncomputable def codeK (C : Cfg) (A : Ann) (call : FuncId → List AVal → Heap → Tr Res) (again : Code → Code → Fr → Heap → (Ex → Fr → Heap → Tr Res) → Tr Res) :
    Code → Fr → Heap → (Ex → Fr → Heap → Tr Res) → Tr Res
  | .skip, fr, h, K => K .normal fr h
  | .label _, fr, h, K => K .normal fr h
  | .region _ ops draw, fr, h, K => bif draw then (bif noSel ops then anyS C A call ops fr h (K .normal) else .fail) else opsS C A call ops fr h (K .normal)
  | .seq a b, fr, h, K => codeK C A call again a fr h (seqK (fun fr h => joinK A b (codeK C A call again b (keepAt A b fr) h K)) K)
  | .cond c a b, fr, h, K =>
    (match fr.opnd c with
    | .cv (.one (.val (.bool t))) => bif t then codeK C A call again a fr h K else codeK C A call again b fr h K
    | _ => .fail)
  | .block id c, fr, h, K => codeK C A call again c fr h (blockK id K)
  | .loop c, fr, h, K => loopK (keepAt A c) (codeK C A call again c) rounds (keepAt A c fr) h K
  | .exit id, fr, h, K => K (.exit id) fr h
  | .goto l, fr, h, K => K (.goto l) fr h
  | .ret, fr, h, K => K .ret fr h
  | .scope c, fr, h, K => codeK C A call again c fr h (scopeK A again c K)
  | _, _, _, _ => .fail

/-- From a label on. -/
noncomputable def againK (C : Cfg) (A : Ann) (call : FuncId → List AVal → Heap → Tr Res) : Nat → Code → Code → Fr → Heap → (Ex → Fr → Heap → Tr Res) → Tr Res
  | 0, _, _, _, _, _ => .fail
  | n + 1, rest, body, fr, h, K => codeK C A call (againK C A call n) rest fr h (scopeK A (againK C A call n) body K)

/-- The results. -/
def outK (l : List Nat) (i : Nat) (x : EV) (K : AVal → List (Nat × Nat) → Tr Res) : Tr Res :=
  optK x.toA fun a =>
    bif l.contains i then
      (match x with
      | .cv (.one (.own g _ _)) => K a [(i, g)]
      | .cv (.one (.val (.sl true _ _))) => K a []
      | _ => .fail)
    else K a []
def outsK (P : Program) (l : List Nat) (fr : Fr) (h : Heap) : Nat → List ResultVar → (List AVal → List (Nat × Nat) → Tr Res) → Tr Res
  | _, [], K => K [] []
  | i, .tmp t :: r, K => outK l i (fr.get t) fun a ts => outsK P l fr h (i + 1) r fun as us => K (a :: as) (ts ++ us)
  | i, .cell a t :: r, K => loadK P t (fr.get a) fr h fun x => outK l i x fun a ts => outsK P l fr h (i + 1) r fun as us => K (a :: as) (ts ++ us)

def retK (P : Program) (A : Ann) (fn : Func) (e : Ex) (fr : Fr) (h : Heap) : Tr Res :=
  match e with
  | .normal | .ret => outsK P A.rown fr h 0 fn.results.toList fun as ts => bif nodup (ts.map (·.1)) && nodup (ts.map (·.2)) then .ret (as, h) else .fail
  | _ => .fail

def paramsOf (l : List Nat) : Nat → List AVal → List (Nat × EV)
  | _, [] => []
  | i, v :: r => (i, .cv (cvIn (l.contains i) (tokOf i 0) v)) :: paramsOf l (i + 1) r

noncomputable def evFn (C : Cfg) : Nat → FuncId → List AVal → Heap → Tr Res
  | 0, _, _, _ => .fail
  | d + 1, f, args, h =>
    match C.ext f with
    | some g => g args h
    | none =>
      match C.P.funcs[f]? with
      | none => .fail
      | some fn =>
        match fn.body with
        | none => .fail
        | some c => codeK C (C.ann f) (evFn C d) (againK C (C.ann f) (evFn C d) rounds) c (keepAt (C.ann f) c ⟨paramsOf (C.ann f).pown 0 args, []⟩) h (retK C.P (C.ann f) fn)

end
end Go.Weave
end

section
/- Places in a function's code: loops, and where branches meet. -/
namespace Go.Weave

/-- To a place in code, with what follows there. 'ns': the counters of the loops around it. -/
noncomputable def subK (C : Cfg) (A : Ann) (call : FuncId → List AVal → Heap → Tr Res) (again : Code → Code → Fr → Heap → (Ex → Fr → Heap → Tr Res) → Tr Res)
    (F : Code → (Ex → Fr → Heap → Tr Res) → Tr Res) : List Bool → List Nat → Code → (Ex → Fr → Heap → Tr Res) → Tr Res
  | [], _, c, K => F c K
  | b :: p, ns, .seq x y, K => bif b then subK C A call again F p ns y K else subK C A call again F p ns x (seqK (fun fr h => joinK A y (codeK C A call again y (keepAt A y fr) h K)) K)
  | b :: p, ns, .cond _ x y, K => subK C A call again F p ns (bif b then x else y) K
  | _ :: p, ns, .block id c, K => subK C A call again F p ns c (blockK id K)
  | _ :: p, n :: ns, .loop c, K => subK C A call again F p ns c (seqK (fun fr h => loopK (keepAt A c) (codeK C A call again c) n (keepAt A c fr) h K) K)
  | _ :: p, ns, .scope c, K => subK C A call again F p ns c (scopeK A again c K)
  | _, _, _, _ => .fail

noncomputable def loopPt (C : Cfg) (d f : Nat) (p : List Bool) (ns : List Nat) (k : Nat) (fr : Fr) (h : Heap) : Tr Res :=
  match C.P.funcs[f]? with
  | some fn =>
    (match fn.body with
    | some c => subK C (C.ann f) (evFn C d) (againK C (C.ann f) (evFn C d) rounds) (fun c K => match c with
        | .loop c => loopK (keepAt (C.ann f) c) (codeK C (C.ann f) (evFn C d) (againK C (C.ann f) (evFn C d) rounds) c) k fr h K
        | _ => .fail) p ns c (retK C.P (C.ann f) fn)
    | none => .fail)
  | none => .fail
noncomputable def codePt (C : Cfg) (d f : Nat) (p : List Bool) (ns : List Nat) (fr : Fr) (h : Heap) : Tr Res :=
  match C.P.funcs[f]? with
  | some fn =>
    (match fn.body with
    | some c => subK C (C.ann f) (evFn C d) (againK C (C.ann f) (evFn C d) rounds) (fun c K => codeK C (C.ann f) (evFn C d) (againK C (C.ann f) (evFn C d) rounds) c fr h K) p ns c (retK C.P (C.ann f) fn)
    | none => .fail)
  | none => .fail

noncomputable def heldPt (C : Cfg) (d f : Nat) (p : List Bool) (ns : List Nat) (fr : Fr) (h : Heap) : Tr Res :=
  match C.P.funcs[f]? with
  | some fn =>
    (match fn.body with
    | some c => subK C (C.ann f) (evFn C d) (againK C (C.ann f) (evFn C d) rounds) (fun c K => hold (codeK C (C.ann f) (evFn C d) (againK C (C.ann f) (evFn C d) rounds) c fr h K)) p ns c (retK C.P (C.ann f) fn)
    | none => .fail)
  | none => .fail
theorem heldPt_eq (C : Cfg) (d f : Nat) (p : List Bool) (ns : List Nat) (fr : Fr) (h : Heap) : heldPt C d f p ns fr h = codePt C d f p ns fr h := by
  unfold heldPt codePt
  simp only [hold_eq]

/-- In each order the same. -/
def sameL {α : Type} (n : Nat) (t : Tr α) : Tr α := Tr.anyL (List.replicate n t)
theorem sameL_all {α : Type} {Q : α → Prop} {n : Nat} {t : Tr α} (h : t.All Q) : (sameL (n + 1) t).All Q := by
  refine ⟨by simp, fun i hi => ?_⟩
  have hi' : i < n + 1 := by simpa using hi
  simp [hi', h]

/-- What a run comes to. (A structure: so that nothing looks into a run by unfolding it.) -/
structure Ans {α : Type} (t : Tr α) (a : α) : Prop where
  run : t.All fun r => r = a

theorem all_bind {α β : Type} {Q : β → Prop} : ∀ {t : Tr α} {f : α → Tr β}, t.All (fun a => (f a).All Q) → (t.bind f).All Q
  | .ret _, _, h => h
  | .fail, _, h => h.elim
  | .any _ _, _, h => ⟨h.1, fun i hi => all_bind (h.2 i hi)⟩
theorem Ans.ret {α : Type} (a : α) : Ans (Tr.ret a) a := ⟨rfl⟩
theorem all_mono {α : Type} {Q Q' : α → Prop} (h : ∀ a, Q a → Q' a) : ∀ {t : Tr α}, t.All Q → t.All Q'
  | .ret _, hq => h _ hq
  | .fail, hq => hq
  | .any _ _, hq => ⟨hq.1, fun i hi => all_mono h (hq.2 i hi)⟩
theorem Ans.all {α β : Type} {Q : β → Prop} {t : Tr α} {a : α} {f : α → Tr β} (h : Ans t a) (hf : (f a).All Q) : (t.bind f).All Q :=
  all_bind (all_mono (fun r hr => by subst hr; exact hf) h.run)
theorem Ans.bind {α β : Type} {t : Tr α} {a : α} {b : β} {f : α → Tr β} (h : Ans t a) (hf : Ans (f a) b) : Ans (t.bind f) b := ⟨h.all hf.run⟩
theorem Ans.same {α : Type} {n : Nat} {t : Tr α} {a : α} (h : Ans t a) : Ans (sameL (n + 1) t) a := ⟨sameL_all h.run⟩
end Go.Weave
end

section
/- The evaluator's values stand for the machine's: the relation, and that it outlasts what only grows. -/
namespace Go.Weave

structure Ctx where
  w : World
  n : Nat
  ι : Nat → Nat
  κ : Nat → Option Nat

def okEl (s : Nat) (e : AVal) : Prop := e.isAgg = !(s == 0) ∧ e.cells.length = cnt s ∧ ∀ x ∈ e.cells, x.isAgg = false

/-- 'v' stands for 'a'. -/
inductive Rep (c : Ctx) : Value → AVal → Prop where
  | bool (b : Bool) : Rep c (.bool b) (.bool b)
  | int (k : IntKind) (n : Int) : Rep c (.int k n) (.int k n)
  | str (s : ByteArray) : Rep c (.string s) (.str s.data.toList)
  | nilp : Rep c (.pointer none) .nilp
  | obj (id off : Nat) (h : id < c.n) : Rep c (.pointer (some ⟨c.ι id, off, none⟩)) (.obj id off)
  | elt (b base off lim : Nat) (e : AVal) (ag : Bool) (sz : Nat) (f : Nat → Value) (hk : c.κ b = some lim) (hl : base + sz ≤ lim)
      (hs : e.cells.length = sz) (ha : e.isAgg = ag) (hn : ∀ x ∈ e.cells, x.isAgg = false)
      (hc : ∀ j, j < sz → c.w.cell? ⟨b, base + j, none⟩ = some (f j))
      (hr : ∀ j, j < sz → Rep c (f j) (e.cells.getD j .undef)) : Rep c (.pointer (some ⟨b, base + off, none⟩)) (.elt e ag sz off)
  | slnil (x : Option Addr) (full : Bool) (sz : Nat) : Rep c (.slice x 0 0) (.sl full sz [])
  | sl (b off cap lim : Nat) (full : Bool) (sz : Nat) (es : List AVal) (f : Nat → Nat → Value) (hcap : es.length ≤ cap) (hf : full = true → cap = es.length)
      (hk : c.κ b = some lim) (hl : off + es.length * cnt sz ≤ lim) (he : ∀ e ∈ es, okEl sz e)
      (hc : ∀ i j, i < es.length → j < cnt sz → c.w.cell? ⟨b, off + i * cnt sz + j, none⟩ = some (f i j))
      (hr : ∀ i j, i < es.length → j < cnt sz → Rep c (f i j) ((es.getD i .undef).cells.getD j .undef)) :
      Rep c (.slice (some ⟨b, off, none⟩) es.length cap) (.sl full sz es)
  | nilmap : Rep c (.map none) .nilmap
  | map (id : Nat) (h : id < c.n) : Rep c (.map (some (c.ι id))) (.map id)
  | fn (f : FuncId) (xs ys : Array Value) (first cap : List AVal) (h1 : xs.size = first.length) (h2 : ys.size = cap.length)
      (r1 : ∀ j, j < first.length → Rep c (xs.getD j undef) (first.getD j .undef)) (r2 : ∀ j, j < cap.length → Rep c (ys.getD j undef) (cap.getD j .undef)) :
      Rep c (.func (.func f) xs ys) (.fn f first cap)
  | nilfn : Rep c .nilFunc .nilfn
  | agg (xs : Array Value) (cs : List AVal) (h : xs.size = cs.length) (hn : ∀ x ∈ cs, x.isAgg = false)
      (hr : ∀ j, j < cs.length → Rep c (xs.getD j undef) (cs.getD j .undef)) : Rep c (.agg xs) (.agg cs)
  | nilif : Rep c .nilIface .nilif
  | iface (t : TypeId) (x : Value) (v : AVal) (h : Rep c x v) : Rep c (.iface t x) (.iface t v)

structure Ctx.le (c c' : Ctx) : Prop where
  n : c.n ≤ c'.n
  ι : ∀ id, id < c.n → c'.ι id = c.ι id
  κ : ∀ b l, c.κ b = some l → ∃ l', c'.κ b = some l' ∧ l ≤ l' ∧ ∀ o, o < l → c'.w.cell? ⟨b, o, none⟩ = c.w.cell? ⟨b, o, none⟩

theorem Ctx.le_refl (c : Ctx) : c.le c := ⟨Nat.le_refl _, fun _ _ => rfl, fun _ l h => ⟨l, h, Nat.le_refl _, fun _ _ => rfl⟩⟩
theorem Ctx.le_trans {a b c : Ctx} (h1 : a.le b) (h2 : b.le c) : a.le c :=
  ⟨Nat.le_trans h1.n h2.n, fun id h => (h2.ι id (Nat.lt_of_lt_of_le h h1.n)).trans (h1.ι id h), fun b l h => by
    obtain ⟨l1, k1, le1, e1⟩ := h1.κ b l h
    obtain ⟨l2, k2, le2, e2⟩ := h2.κ b l1 k1
    exact ⟨l2, k2, Nat.le_trans le1 le2, fun o ho => (e2 o (Nat.lt_of_lt_of_le ho le1)).trans (e1 o ho)⟩⟩

theorem cell_lt {k n i j : Nat} (hi : i < n) (hj : j < k) : i * k + j < n * k := by
  have h : (i + 1) * k ≤ n * k := Nat.mul_le_mul_right k hi
  rw [Nat.succ_mul] at h
  omega

theorem Rep.mono {c c' : Ctx} (h : c.le c') {v : Value} {a : AVal} (r : Rep c v a) : Rep c' v a := by
  induction r with
  | bool b => exact .bool b
  | int k n => exact .int k n
  | str s => exact .str s
  | nilp => exact .nilp
  | obj id off hid => rw [← h.ι id hid]; exact .obj id off (Nat.lt_of_lt_of_le hid h.n)
  | elt b base off lim e ag sz f hk hl hs ha hn hc _ ih =>
    obtain ⟨l', k', le', e'⟩ := h.κ b lim hk
    exact .elt b base off l' e ag sz f k' (Nat.le_trans hl le') hs ha hn (fun j hj => by rw [e' _ (by omega)]; exact hc j hj) ih
  | slnil x full sz => exact .slnil x full sz
  | sl b off cap lim full sz es f hcap hf hk hl he hc _ ih =>
    obtain ⟨l', k', le', e'⟩ := h.κ b lim hk
    exact .sl b off cap l' full sz es f hcap hf k' (Nat.le_trans hl le') he
      (fun i j hi hj => by rw [e' _ (by have := cell_lt hi hj; omega)]; exact hc i j hi hj) ih
  | nilmap => exact .nilmap
  | map id hid => rw [← h.ι id hid]; exact .map id (Nat.lt_of_lt_of_le hid h.n)
  | fn f xs ys first cap h1 h2 _ _ i1 i2 => exact .fn f xs ys first cap h1 h2 i1 i2
  | nilfn => exact .nilfn
  | agg xs cs hs hn _ ih => exact .agg xs cs hs hn ih
  | nilif => exact .nilif
  | iface t x v _ ih => exact .iface t x v ih

/-- A value that one cell holds. -/
abbrev Cellv (v : Value) : Prop := v.oneCell' = true

theorem Rep.cellv {c : Ctx} {v : Value} {a : AVal} (r : Rep c v a) (h : a.isAgg = false) : Cellv v := by
  cases r <;> first | rfl | simp [AVal.isAgg] at h

theorem Rep.weakSl {c : Ctx} {v : Value} {full : Bool} {sz : Nat} {es : List AVal} (r : Rep c v (.sl full sz es)) : Rep c v (.sl false sz es) := by
  cases r with
  | slnil => exact .slnil _ _ _
  | sl b off cap lim _ _ _ f hcap hf hk hl he hc hr => exact .sl b off cap lim false sz es f hcap (by simp) hk hl he hc hr

/-- Another shape's word for nothing. -/
theorem Rep.slEmpty {c : Ctx} {v : Value} {full : Bool} {sz sz' : Nat} {es : List AVal} (r : Rep c v (.sl full sz es)) (h : (sz == sz' || es.isEmpty) = true) :
    Rep c v (.sl full sz' es) := by
  simp only [Bool.or_eq_true, beq_iff_eq, List.isEmpty_iff] at h
  rcases h with rfl | rfl
  · exact r
  · cases r with
    | slnil => exact .slnil _ _ _
    | sl b off cap lim _ _ _ f hcap hf hk hl he hc hr =>
      exact .sl b off cap lim full sz' [] f hcap hf hk (by simpa using hl) (by simp) (fun i j hi => by simp at hi) (fun i j hi => by simp at hi)

/-! ### Owners -/
inductive Owner where
  | tok (g : Nat)
  | cell (id off : Nat)
  deriving DecidableEq

/-- The scene in which a frame's values stand for the machine's. -/
structure Sc where
  c : Ctx
  β : Owner → Option Nat
  lam : Nat → Nat
  sh : Nat → Nat × Nat
  H : Heap
  bx : List (Nat × Box)

def OwnAt (c : Ctx) (ob : Option Nat) (sz : Nat) : Value → Prop
  | .slice (some a) len cap => len = cap ∨ (ob = some a.block ∧ c.κ a.block = some (a.off + len * cnt sz) ∧ ∃ xs el, c.w.heap[a.block]? = some (.cells xs el (0, 0)) ∧ a.off + cap * cnt sz ≤ xs.size)
  | _ => True

def RepS (S : Sc) (v : Value) : SV → Prop
  | .unk => True
  | .val a => Rep S.c v a
  | .own g sz es => Rep S.c v (.sl false sz es) ∧ OwnAt S.c (S.β (.tok g)) sz v
  | .bor id off sz es => Rep S.c v (.sl false sz es) ∧ id < S.c.n ∧ ∀ hc, S.H.cell? id off = some hc → S.c.w.cell? ⟨S.c.ι id, off, none⟩ = some v
  | .loc d off => (look d S.bx).isSome = true ∧ v = .pointer (some ⟨S.lam d, off, none⟩)
  | .lsl d => (look d S.bx).isSome = true ∧ v = .slice (some ⟨S.lam d, 0, none⟩) (S.sh d).1 (S.sh d).2

/-- Cells, one by one. -/
def RepL (S : Sc) (xs : Array Value) (l : List SV) : Prop :=
  xs.size = l.length ∧ ∀ j, j < l.length → RepS S (xs.getD j undef) (l.getD j .unk) ∧ Cellv (xs.getD j undef)
def RepA (c : Ctx) (xs : Array Value) (l : List AVal) : Prop :=
  xs.size = l.length ∧ ∀ j, j < l.length → Rep c (xs.getD j undef) (l.getD j .undef) ∧ (l.getD j .undef).isAgg = false

def RepC (S : Sc) (v : Value) : CV → Prop
  | .one s => RepS S v s
  | .agg l => ∃ xs, v = .agg xs ∧ RepL S xs l

def RepE (S : Sc) (v : Value) : EV → Prop
  | .cv c => RepC S v c
  | .tup l => ∃ xs : Array Value, v = .tuple xs ∧ xs.size = l.length ∧ ∀ j, j < l.length → RepC S (xs.getD j undef) (l.getD j (.one .unk))

def RepH (c : Ctx) (ob : Option Nat) (v : Value) : HCell → Prop
  | .val a => Rep c v a ∧ a.isAgg = false
  | .own sz es => Rep c v (.sl false sz es) ∧ OwnAt c ob sz v

def RepM (c : Ctx) (e : MapEntry) (p : AVal × AVal × Nat) : Prop := Rep c e.key p.1 ∧ Rep c e.val p.2.1 ∧ e.born = p.2.2

def ObjOK (c : Ctx) (β : Owner → Option Nat) (id : Nat) : Obj → Prop
  | .cells hs => ∃ xs el, c.w.heap[c.ι id]? = some (.cells xs el (0, 0)) ∧ xs.size = hs.length ∧
      ∀ j, j < hs.length → RepH c (β (.cell id j)) (xs.getD j undef) (hs.getD j (.val .undef))
  | .map _ es clock => ∃ ents, c.w.heap[c.ι id]? = some (.map ents clock) ∧ ents.size = es.length ∧
      ∀ j, j < es.length → RepM c (ents.getD j default) (es.getD j (.undef, .undef, 0))

/-- A map's keys are plain data of its key's type. -/
def KeysOk (P : Program) (H : Heap) : Prop := ∀ (id : Nat) (kt : TypeId) (es : List (AVal × AVal × Nat)) (c : Nat), H.objs[id]? = some (Weave.Obj.map kt es c) → ∀ e ∈ es, plainOk P kt e.1 = true

structure HRel (c : Ctx) (β : Owner → Option Nat) (H : Heap) : Prop where
  n : c.n = H.objs.length
  obj : ∀ id o, H.objs[id]? = some o → ObjOK c β id o
  κ : ∀ id, id < c.n → c.κ (c.ι id) = none
  inj : ∀ id id', id < c.n → id' < c.n → c.ι id = c.ι id' → id = id'

/-- What is owned is whole, unfrozen, and no managed object's. -/
structure BRel (c : Ctx) (β : Owner → Option Nat) : Prop where
  blk : ∀ o b, β o = some b → ∃ xs el, c.w.heap[b]? = some (.cells xs el (0, 0))
  κ : ∀ o b, β o = some b → c.κ b ≠ none
  inj : ∀ o o' b, β o = some b → β o' = some b → o = o'
  lim : ∀ b l, c.κ b = some l → b < c.w.heap.size
  cl : ∀ id o b, β (.cell id o) = some b → id < c.n

/-- A row whose first cells are a slice's elements. -/
structure Flat (c : Ctx) (xs : Array Value) (sz : Nat) (es : List AVal) : Prop where
  len : es.length * cnt sz ≤ xs.size
  ok : ∀ e ∈ es, okEl sz e
  rep : ∀ i j, i < es.length → j < cnt sz → Rep c (xs.getD (i * cnt sz + j) undef) ((es.getD i .undef).cells.getD j .undef)

theorem Flat.mono {c c' : Ctx} (hle : c.le c') {xs : Array Value} {sz : Nat} {es : List AVal} (h : Flat c xs sz es) : Flat c' xs sz es :=
  ⟨h.len, h.ok, fun i j hi hj => Rep.mono hle (h.rep i j hi hj)⟩

def BoxOK (S : Sc) (d : Nat) : Box → Prop
  | .plain cs => ∃ xs el, S.c.w.heap[S.lam d]? = some (.cells xs el (0, 0)) ∧ RepA S.c xs cs
  | .rich l => ∃ xs el, S.c.w.heap[S.lam d]? = some (.cells xs el (0, 0)) ∧ RepL S xs l
  | .arr sz es => ∃ xs el, S.c.w.heap[S.lam d]? = some (.cells xs el (0, 0)) ∧ Flat S.c xs sz es ∧ (S.sh d).1 = es.length ∧ es.length ≤ (S.sh d).2 ∧ (S.sh d).2 * cnt sz ≤ xs.size

def Mgd (c : Ctx) (β : Owner → Option Nat) (b : Nat) : Prop := (∃ id, id < c.n ∧ c.ι id = b) ∨ ∃ id o, β (.cell id o) = some b

/-- A call's own memory: what is new since it began, and what was managed then. -/
structure Bs where
  n : Nat
  E : Nat → Prop
def Bs.ok (B : Bs) (b : Nat) : Prop := B.n ≤ b ∨ B.E b
theorem Bs.lt {B : Bs} {b : Nat} (h : ¬ B.ok b) : b < B.n := Nat.lt_of_not_le fun h' => h (.inl h')

structure Rel (base : Bs) (S : Sc) (fr : Fr) (a : Act) (w : World) : Prop where
  w : S.c.w = w
  defers : a.defers = []
  heap : HRel S.c S.β S.H
  own : BRel S.c S.β
  baseLe : base.n ≤ S.c.w.heap.size
  bx : S.bx = fr.boxes
  env : ∀ s e, look s fr.env = some e → RepE S (a.tmps.getD s undef) e
  box : ∀ d b, look d fr.boxes = some b → BoxOK S d b
  boxκ : ∀ d b, look d fr.boxes = some b → S.c.κ (S.lam d) = none
  boxι : ∀ d b, look d fr.boxes = some b → ∀ id, id < S.c.n → S.c.ι id ≠ S.lam d
  boxinj : ∀ d d' b b', look d fr.boxes = some b → look d' fr.boxes = some b' → S.lam d = S.lam d' → d = d'
  boxbase : ∀ d b, look d fr.boxes = some b → base.n ≤ S.lam d
  tokbase : ∀ g b, S.β (.tok g) = some b → base.ok b
  mgd : ∀ b, Mgd S.c S.β b → base.ok b

/-- What is not a call's own memory is as it was. -/
structure Pres (base : Bs) (c : Ctx) (β : Owner → Option Nat) (c' : Ctx) (β' : Owner → Option Nat) : Prop where
  le : c.le c'
  size : c.w.heap.size ≤ c'.w.heap.size
  same : ∀ b, ¬ base.ok b → c'.w.heap[b]? = c.w.heap[b]? ∧ c'.κ b = c.κ b
  io : c'.w.os = c.w.os ∧ c'.w.output = c.w.output

theorem Pres.refl (base : Bs) (c : Ctx) (β β' : Owner → Option Nat) : Pres base c β c β' := ⟨c.le_refl, Nat.le_refl _, fun _ _ => ⟨rfl, rfl⟩, ⟨rfl, rfl⟩⟩
theorem Pres.trans {base : Bs} {c c' c'' : Ctx} {β β' β1 β'' : Owner → Option Nat} (h1 : Pres base c β c' β') (h2 : Pres base c' β1 c'' β'') : Pres base c β c'' β'' :=
  ⟨Ctx.le_trans h1.le h2.le, Nat.le_trans h1.size h2.size, fun b hb => by
    obtain ⟨e1, k1⟩ := h1.same b hb
    obtain ⟨e2, k2⟩ := h2.same b hb
    exact ⟨e2.trans e1, k2.trans k1⟩, ⟨h2.io.1.trans h1.io.1, h2.io.2.trans h1.io.2⟩⟩
theorem Pres.sub {base base' : Bs} {c c' : Ctx} {β β' : Owner → Option Nat} (h : Pres base c β c' β') (hb : ∀ b, ¬ base'.ok b → ¬ base.ok b) : Pres base' c β c' β' :=
  ⟨h.le, h.size, fun b h' => h.same b (hb b h'), h.io⟩

/-! ### Slots -/
theorem look_ins {α : Type} {s t : Nat} {v : α} : ∀ l : List (Nat × α), look t (ins s v l) = if s = t then some v else look t l
  | [] => by
    simp only [ins, look]
    by_cases h : s = t
    · simp [h]
    · have : (s == t) = false := by simpa using h
      simp [h, this]
  | (k, x) :: r => by
    simp only [ins]
    cases h1 : Nat.blt s k
    · cases h2 : k == s
      · simp only [cond_false, look]
        rw [look_ins r]
        by_cases h : s = t
        · subst h; simp [h2]
        · simp [h]
      · simp only [cond_true, cond_false, look]
        have : k = s := by simpa using h2
        subst this
        by_cases h : k = t
        · subst h; simp
        · have h' : (k == t) = false := by simpa using h
          simp [h, h']
    · simp only [cond_true, look]
      by_cases h : s = t
      · subst h; simp
      · have h' : (s == t) = false := by simpa using h
        simp [h, h']

theorem look_set {s t : Nat} {fr : Fr} {v e : EV} (h : look t (fr.set s v).env = some e) : (t = s ∧ e = v) ∨ (t ≠ s ∧ look t fr.env = some e) := by
  simp only [Fr.set] at h
  rw [look_ins] at h
  by_cases hk : s = t
  · subst hk; simp at h; exact .inl ⟨rfl, h.symm⟩
  · simp only [hk, if_false] at h
    exact .inr ⟨fun e => hk e.symm, h⟩

theorem look_setBox {d d' : Nat} {fr : Fr} {b b' : Box} (h : look d' (fr.setBox d b).boxes = some b') : (d' = d ∧ b' = b) ∨ (d' ≠ d ∧ look d' fr.boxes = some b') := by
  simp only [Fr.setBox] at h
  rw [look_ins] at h
  by_cases hk : d = d'
  · subst hk; simp at h; exact .inl ⟨rfl, h.symm⟩
  · simp only [hk, if_false] at h
    exact .inr ⟨fun e => hk e.symm, h⟩

theorem look_map {α β : Type} (f : α → β) (s : Nat) : ∀ l : List (Nat × α), look s (l.map fun p => (p.1, f p.2)) = (look s l).map f
  | [] => rfl
  | (k, v) :: r => by
    simp only [List.map_cons, look]
    cases k == s
    · simpa using look_map f s r
    · rfl

theorem getD_set_eq {xs : Array Value} {i : Nat} {v : Value} (h : i < xs.size) : (xs.setIfInBounds i v).getD i undef = v := by simp [h]
theorem getD_set_ne {xs : Array Value} {i j : Nat} {v : Value} (h : j ≠ i) : (xs.setIfInBounds i v).getD j undef = xs.getD j undef := by
  simp only [Array.getD_eq_getD_getElem?]
  rw [Array.getElem?_setIfInBounds_ne (Ne.symm h)]

theorem eval_get {base : Bs} {S : Sc} {fr : Fr} {a : Act} {w : World} (r : Rel base S fr a w) (s : Nat) : RepE S (a.tmps.getD s undef) (fr.get s) := by
  unfold Fr.get
  cases h : look s fr.env with
  | none => exact True.intro
  | some e => exact r.env s e h

theorem Rel.put {base : Bs} {S : Sc} {fr : Fr} {a : Act} {w : World} (r : Rel base S fr a w) {dst : Option Nat} {v : Value} {e : EV}
    (hd : ∀ d, dst = some d → d < a.tmps.size) (h : RepE S v e) : Rel base S (fr.put dst e) (a.put dst v) w := by
  cases dst with
  | none => exact r
  | some d =>
    have hdd := hd d rfl
    refine { r with env := fun s e' he => ?_ }
    rcases look_set he with ⟨rfl, rfl⟩ | ⟨hne, he⟩
    · simp only [Act.put]; rw [getD_set_eq hdd]; exact h
    · simp only [Act.put]; rw [getD_set_ne hne]; exact r.env s e' he

theorem ofValue1_rep (c : Ctx) {v : Value} {a : AVal} (h : ofValue1 v = some a) : Rep c v a ∧ a.isAgg = false := by
  unfold ofValue1 at h
  split at h <;> simp at h <;> subst h
  · exact ⟨.bool _, rfl⟩
  · exact ⟨.int _ _, rfl⟩
  · exact ⟨.str _, rfl⟩
  · exact ⟨.nilp, rfl⟩
  · exact ⟨.slnil _ _ _, rfl⟩
  · exact ⟨.nilmap, rfl⟩
  · exact ⟨.nilfn, rfl⟩
  · exact ⟨.nilif, rfl⟩

theorem optAll_some {α : Type} : ∀ {l : List (Option α)} {r : List α}, optAll l = some r → l = r.map some
  | [], r, h => by simp [optAll] at h; subst h; rfl
  | none :: _, r, h => by simp [optAll] at h
  | some a :: t, r, h => by
    simp only [optAll] at h
    split at h
    · rename_i l hl; simp at h; subst h; simp [optAll_some hl]
    · simp at h

theorem ofZero1_rep (c : Ctx) {n : Nat} {v : Value} {a : AVal} (h : ofZero1 n v = some a) : Rep c v a ∧ a.isAgg = false := by
  unfold ofZero1 at h
  split at h
  · simp at h; subst h; exact ⟨.slnil _ _ _, rfl⟩
  · exact ofValue1_rep c h
theorem ofZeros_at : ∀ (sh : List Nat) (l : List Value) (j : Nat) (h : j < l.length), ∃ n, (ofZeros sh l)[j]? = some (ofZero1 n l[j])
  | sh, v :: r, 0, _ => ⟨sh.headD 0, rfl⟩
  | sh, v :: r, j + 1, h => by
    obtain ⟨n, hn⟩ := ofZeros_at sh.tail r j (by simpa using h)
    exact ⟨n, by simpa [ofZeros] using hn⟩
theorem ofZeros_length : ∀ (sh : List Nat) (l : List Value), (ofZeros sh l).length = l.length
  | _, [] => rfl
  | sh, v :: r => by simp [ofZeros, ofZeros_length sh.tail r]
theorem ofZero_rep (c : Ctx) {sh : List Nat} {v : Value} {a : AVal} (h : ofZero sh v = some a) : Rep c v a := by
  unfold ofZero at h
  split at h
  · rename_i cs
    split at h
    · rename_i l hl
      simp at h; subst h
      have hm := optAll_some hl
      have hlen : cs.size = l.length := by have := congrArg List.length hm; simpa [ofZeros_length] using this
      have hj : ∀ j, j < l.length → ∃ n, ofZero1 n (cs.getD j undef) = some (l.getD j .undef) := fun j hj => by
        have h2 : j < cs.size := by omega
        obtain ⟨n, hn⟩ := ofZeros_at sh cs.toList j (by simpa using h2)
        rw [hm, List.getElem?_map, List.getElem?_eq_getElem hj] at hn
        refine ⟨n, ?_⟩
        simp at hn
        have e1 : cs.getD j undef = cs[j] := by simp [h2]
        have e2 : l.getD j .undef = l[j] := by simp [hj]
        rw [e1, e2, ← hn]
      refine .agg cs l hlen (fun x hx => ?_) (fun j hj' => (ofZero1_rep c (hj j hj').choose_spec).1)
      obtain ⟨j, hj', rfl⟩ := List.getElem_of_mem hx
      have := (ofZero1_rep c (hj j hj').choose_spec).2
      simpa [hj'] using this
    · simp at h
  · exact (ofZero1_rep c h).1

theorem ofValue_rep (c : Ctx) {v : Value} {a : AVal} (h : ofValue v = some a) : Rep c v a := by
  unfold ofValue at h
  split at h
  · rename_i cs
    split at h
    · rename_i l hl
      simp at h; subst h
      have hm := optAll_some hl
      have hlen : cs.size = l.length := by have := congrArg List.length hm; simpa using this
      have hj : ∀ j, j < l.length → ofValue1 (cs.getD j undef) = some (l.getD j .undef) := fun j hj => by
        have h1 := congrArg (·[j]?) hm
        simp only [List.getElem?_map] at h1
        rw [List.getElem?_eq_getElem hj, List.getElem?_eq_getElem (by simpa [hlen] using hj)] at h1
        simp at h1
        have h2 : j < cs.size := by omega
        simp [h2, hj, h1]
      refine .agg cs l hlen (fun x hx => ?_) (fun j hj' => (ofValue1_rep c (hj j hj')).1)
      obtain ⟨j, hj', rfl⟩ := List.getElem_of_mem hx
      have := (ofValue1_rep c (hj j hj')).2
      simpa [hj'] using this
    · simp at h
  · exact (ofValue1_rep c h).1

theorem eval_opnd {base : Bs} {S : Sc} {fr : Fr} {a : Act} {w : World} (r : Rel base S fr a w) (x : Operand) : RepE S (a.eval x) (fr.opnd x) := by
  cases x with
  | tmp t => exact eval_get r t
  | const v =>
    simp only [Act.eval, Fr.opnd]
    split
    · rename_i a' h; exact ofValue_rep S.c h
    · exact True.intro
  | global g => exact True.intro
  | func f => exact .fn f #[] #[] [] [] rfl rfl (fun j h => by simp at h) (fun j h => by simp at h)

theorem RepS.toA {S : Sc} {v : Value} {s : SV} {a : AVal} (r : RepS S v s) (h : s.toA = some a) : Rep S.c v a := by
  cases s <;> simp [SV.toA] at h
  · subst h; exact r
  · subst h; exact r.1
  · subst h; exact r.1

theorem RepC.toA {S : Sc} {v : Value} {s : CV} {a : AVal} (r : RepC S v s) (h : s.toA = some a) : Rep S.c v a := by
  cases s with
  | one s => exact RepS.toA r h
  | agg l =>
    simp only [CV.toA] at h
    split at h
    · rename_i cs hcs
      simp at h; subst h
      obtain ⟨xs, rfl, hlen, hr⟩ := r
      have hm := optAll_some hcs
      have hl : l.length = cs.length := by have := congrArg List.length hm; simpa using this
      have hj : ∀ j, j < cs.length → (l.getD j .unk).toA = some (cs.getD j .undef) := fun j hj => by
        have h1 := congrArg (·[j]?) hm
        simp only [List.getElem?_map] at h1
        rw [List.getElem?_eq_getElem hj, List.getElem?_eq_getElem (by omega)] at h1
        simp at h1
        have : j < l.length := by omega
        simp [this, hj, h1]
      refine .agg xs cs (by omega) (fun x hx => ?_) (fun j hj' => RepS.toA (hr j (by omega)).1 (hj j hj'))
      obtain ⟨j, hj', rfl⟩ := List.getElem_of_mem hx
      have h1 := (hr j (by omega)).2
      have h2 := RepS.toA (hr j (by omega)).1 (hj j hj')
      have h3 : cs.getD j .undef = cs[j] := by simp [hj']
      rw [h3] at h2
      generalize xs.getD j undef = v at h1 h2
      generalize cs[j] = a at h2
      cases h2 <;> first | rfl | exact absurd h1 (by simp [Value.oneCell'])
    · simp at h

theorem RepE.toA {S : Sc} {v : Value} {e : EV} {a : AVal} (r : RepE S v e) (h : e.toA = some a) : Rep S.c v a := by
  cases e with
  | cv c => exact RepC.toA r h
  | tup l => simp [EV.toA] at h

/-! ### Answers -/
theorem Tr.All.mono {α : Type} {Q Q' : α → Prop} (h : ∀ a, Q a → Q' a) : ∀ {t : Tr α}, t.All Q → t.All Q'
  | .ret a, r => h a r
  | .fail, r => r
  | .any _ _, r => ⟨r.1, fun i hi => Tr.All.mono h (r.2 i hi)⟩
theorem Tr.All.bind {α β : Type} {Q : β → Prop} {f : α → Tr β} : ∀ {t : Tr α}, (t.bind f).All Q → t.All fun a => (f a).All Q
  | .ret _, r => r
  | .fail, r => r
  | .any _ _, r => ⟨r.1, fun i hi => Tr.All.bind (r.2 i hi)⟩

theorem all_optK {α R : Type} {Q : R → Prop} {o : Option α} {K : α → Tr R} (h : (optK o K).All Q) : ∃ a, o = some a ∧ (K a).All Q := by
  cases o with
  | none => exact h.elim
  | some a => exact ⟨a, rfl, h⟩
theorem all_bif {R : Type} {Q : R → Prop} {b : Bool} {t : Tr R} (h : (bif b then t else .fail).All Q) : b = true ∧ t.All Q := by
  cases b
  · exact h.elim
  · exact ⟨rfl, h⟩
end Go.Weave
end

section
/- Plain data: structs of numbers, bools, texts. -/
namespace Go.Weave
variable {P : Program} {w : World} {R : Type} {Q : R → Prop}

theorem info_of_und {t : TypeId} {d : TypeDesc} (h : P.underlying t = some d) : ∃ i, P.info? t = some i := by
  unfold Program.underlying at h
  split at h
  · rename_i hh; exact ⟨_, hh⟩
  · rename_i hh; exact ⟨_, hh⟩
  · simp at h

theorem run_isAgg {t : TypeId} {d : TypeDesc} (h : P.underlying t = some d) : (isAgg t).run P w = .ok (aggT P t) w := by
  unfold isAgg aggT
  simp only [Sem.run_bind, run_underlying h, Result.andThen_ok, h]
  cases d <;> rfl

theorem run_size {t : TypeId} {d : TypeDesc} (h : P.underlying t = some d) : (sizeOf t).run P w = .ok (szOf P t) w := by
  obtain ⟨i, hi⟩ := info_of_und h
  simp [sizeOf, typeInfo, hi, szOf]

theorem aggT_und {t : TypeId} (h : aggT P t = true) : ∃ d, P.underlying t = some d := by
  unfold aggT at h
  cases hu : P.underlying t with
  | none => simp [hu] at h
  | some d => exact ⟨d, rfl⟩

theorem getD_range {n j : Nat} (f : Nat → Value) (h : j < n) : (((List.range n).map f).toArray).getD j undef = f j := by simp [h]


theorem take_drop_getD {α : Type} (l : List α) (o n j : Nat) (d : α) (h : j < n) : ((l.drop o).take n).getD j d = l.getD (o + j) d := by
  simp [h, List.getElem?_drop]

theorem sub_agg {c : Ctx} {xs : Array Value} {cs : List AVal} {off n : Nat} (h : RepA c xs cs) (hn : off + n ≤ cs.length) :
    Rep c (.agg ((List.range n).map fun j => xs.getD (off + j) undef).toArray) (.agg ((cs.drop off).take n)) := by
  refine .agg _ _ (by simp; omega) (fun x hx => ?_) (fun j hj => ?_)
  · obtain ⟨j, hj, rfl⟩ := List.getElem_of_mem (List.mem_of_mem_drop (List.mem_of_mem_take hx))
    have := (h.2 j hj).2
    simpa [hj] using this
  · have hj' : j < n := by simp at hj; omega
    rw [getD_range _ hj', take_drop_getD _ _ _ _ _ hj']
    exact (h.2 _ (by omega)).1

theorem part_run {c : Ctx} {t : TypeId} {d : TypeDesc} {xs : Array Value} {cs : List AVal} {off : Nat} (hu : P.underlying t = some d) (r : RepA c xs cs)
    (hn : off + (bif aggT P t then szOf P t else 1) ≤ cs.length) :
    ∃ v, (∀ w, (Go.part t xs off).run P w = .ok v w) ∧ Rep c v (bif aggT P t then .agg ((cs.drop off).take (szOf P t)) else cs.getD off .undef) := by
  unfold Go.part
  simp only [Sem.run_bind, run_isAgg hu, Result.andThen_ok]
  cases ha : aggT P t <;> simp only [ha, cond_true, cond_false] at hn
  · have hlt : off < xs.size := by rw [r.1]; omega
    refine ⟨xs.getD off undef, fun w => ?_, ?_⟩
    · simp [hlt]
    · exact (r.2 off (by omega)).1
  · refine ⟨_, fun w => by simp only [if_true, Sem.run_bind, run_size hu, Result.andThen_ok]; rfl, ?_⟩
    have := sub_agg (n := szOf P t) r hn
    have e : xs.extract off (off + szOf P t) = ((List.range (szOf P t)).map fun j => xs.getD (off + j) undef).toArray := by
      apply Array.ext'
      simp only [Array.toList_extract, List.extract]
      apply List.ext_getElem?
      intro j
      by_cases hj : j < szOf P t
      · have h1 : off + j < xs.size := by rw [r.1]; omega
        simp [hj, List.getElem?_drop, h1]
      · simp [hj]; omega
    rw [e]
    exact this

/-! ### Plain data, compared -/
theorem leavesOk_length : ∀ {l : List TypeDesc} {cs : List AVal}, leavesOk l cs = true → cs.length = l.length
  | [], [], _ => rfl
  | _ :: _, _ :: _, h => by
    simp only [leavesOk, Bool.and_eq_true] at h
    simp [leavesOk_length h.2]
  | [], _ :: _, h => by simp [leavesOk] at h
  | _ :: _, [], h => by simp [leavesOk] at h

theorem leavesOk_append : ∀ {l m : List TypeDesc} {cs : List AVal}, leavesOk (l ++ m) cs = true → leavesOk l (cs.take l.length) = true ∧ leavesOk m (cs.drop l.length) = true
  | [], m, cs, h => by simpa [leavesOk] using h
  | t :: l, m, [], h => by simp [leavesOk] at h
  | t :: l, m, c :: cs, h => by
    simp only [List.cons_append, leavesOk, Bool.and_eq_true] at h
    have := leavesOk_append h.2
    simp [leavesOk, h.1, this.1, this.2]

theorem eqCells_append : ∀ {a1 b1 a2 b2 : List AVal}, a1.length = b1.length → eqCells (a1 ++ a2) (b1 ++ b2) = (eqCells a1 b1 && eqCells a2 b2)
  | [], [], _, _, _ => by simp [eqCells]
  | x :: a1, y :: b1, a2, b2, h => by
    simp only [List.cons_append, eqCells]
    rw [eqCells_append (by simpa using h), Bool.and_assoc]
  | [], _ :: _, _, _, h => by simp at h
  | _ :: _, [], _, _, h => by simp at h

theorem leaves_cases {m : Nat} {t : TypeId} {l : List TypeDesc} (h : leavesOf P m t = some l) :
    ∃ m', m = m' + 1 ∧ ((∃ d, l = [d] ∧ P.underlying t = some d ∧ aggT P t = false ∧ (d = .bool ∨ d = .string ∨ ∃ k, d = .int k)) ∨
      ∃ fs, P.underlying t = some (.struct fs) ∧ aggT P t = true ∧ P.stoodInHeld t = false ∧ leavesFs P (leavesOf P m') 0 fs.toList = some l) := by
  cases m with
  | zero => simp [leavesOf] at h
  | succ m =>
    refine ⟨m, rfl, ?_⟩
    unfold leavesOf at h
    split at h
    · rename_i hu; simp at h; exact .inl ⟨_, h.symm, hu, by simp [aggT, hu], .inl rfl⟩
    · rename_i k hu; simp at h; exact .inl ⟨_, h.symm, hu, by simp [aggT, hu], .inr (.inr ⟨k, rfl⟩)⟩
    · rename_i hu; simp at h; exact .inl ⟨_, h.symm, hu, by simp [aggT, hu], .inr (.inl rfl)⟩
    · rename_i fs hu
      cases hs : P.stoodInHeld t <;> simp only [hs, cond_true, cond_false] at h
      · exact .inr ⟨fs, hu, by simp [aggT, hu], rfl, h⟩
      · simp at h
    · simp at h

theorem leaves_und {m : Nat} {t : TypeId} {l : List TypeDesc} (h : leavesOf P m t = some l) : ∃ d, P.underlying t = some d := by
  obtain ⟨_, _, ⟨d, _, hu, _⟩ | ⟨fs, hu, _⟩⟩ := leaves_cases h
  · exact ⟨d, hu⟩
  · exact ⟨_, hu⟩

/-- One field out of many. -/
theorem field_of {c : Ctx} {m off : Nat} {t : TypeId} {lf lr : List TypeDesc} {xs : Array Value} {cs : List AVal} (h : leavesOf P m t = some lf) (hz : szOf P t = lf.length) (r : RepA c xs cs) (ho : off ≤ cs.length)
    (hl : leavesOk (lf ++ lr) (cs.drop off) = true) :
    ∃ v a, (Go.part t xs off).run P w = .ok v w ∧ Rep c v a ∧ a.isAgg = aggT P t ∧ a.cells = (cs.drop off).take lf.length ∧ leavesOk lf a.cells = true := by
  obtain ⟨d, hu⟩ := leaves_und h
  have hlen := leavesOk_length hl
  simp only [List.length_append, List.length_drop] at hlen
  have hs := (leavesOk_append hl).1
  obtain ⟨_, _, ⟨d, rfl, _, ha, _⟩ | ⟨fs, _, ha, _⟩⟩ := leaves_cases h
  · simp at hlen
    obtain ⟨v, h1, h2⟩ := part_run hu r (off := off) (by simp [ha]; omega)
    simp only [ha, cond_false] at h2
    have h3 := (r.2 off (by omega)).2
    have e : (cs.drop off).take [d].length = [cs.getD off .undef] := by
      have h4 : off < cs.length := by omega
      rw [List.drop_eq_getElem_cons h4]
      show List.take 1 _ = _
      rw [List.take_succ_cons, List.take_zero]
      simp [h4]
    have hc : (cs.getD off AVal.undef).cells = [cs.getD off .undef] := by
      generalize cs.getD off AVal.undef = a at h3
      cases a <;> first | rfl | simp [AVal.isAgg] at h3
    exact ⟨v, _, h1 w, h2, by rw [h3, ha], by rw [hc, e], by rw [hc, ← e]; exact hs⟩
  · obtain ⟨v, h1, h2⟩ := part_run hu r (off := off) (by simp [ha]; omega)
    simp only [ha, cond_true] at h2
    exact ⟨v, _, h1 w, h2, by rw [ha]; rfl, by rw [hz]; rfl, by rw [hz]; exact hs⟩

def EqAt' (P : Program) (w : World) (c : Ctx) (n : Nat) (t : TypeId) (l : List TypeDesc) : Prop :=
  ∀ (x y : Value) (a b : AVal), Rep c x a → Rep c y b → a.isAgg = aggT P t → b.isAgg = aggT P t → leavesOk l a.cells = true → leavesOk l b.cells = true →
    (Op.equalIn n t x y).run P w = .ok (eqCells a.cells b.cells) w

theorem leavesFs_cons {g : TypeId → Option (List TypeDesc)} {off : Nat} {f : Field} {r : List Field} {l : List TypeDesc} (h : leavesFs P g off (f :: r) = some l) :
    ∃ lf lr, g f.type = some lf ∧ f.name ≠ "_" ∧ f.offset = off ∧ szOf P f.type = lf.length ∧ leavesFs P g (off + lf.length) r = some lr ∧ l = lf ++ lr := by
  unfold leavesFs at h
  split at h
  · simp at h
  · rename_i lf hlf
    cases hb : ((f.name != "_") && (f.offset == off) && (szOf P f.type == lf.length)) <;> simp only [hb, cond_true, cond_false] at h
    · simp at h
    · simp only [Bool.and_eq_true, bne_iff_ne, ne_eq, beq_iff_eq] at hb
      split at h
      · rename_i lr hlr
        simp at h
        exact ⟨lf, lr, hlf, hb.1.1, hb.1.2, hb.2, hlr, h.symm⟩
      · simp at h

theorem eqFs {c : Ctx} {n m : Nat} {xs ys : Array Value} {cs ds : List AVal} (IH : ∀ t l, leavesOf P m t = some l → EqAt' P w c n t l) (rx : RepA c xs cs) (ry : RepA c ys ds) :
    ∀ (fs : List Field) (off : Nat) (l : List TypeDesc), leavesFs P (leavesOf P m) off fs = some l → off ≤ cs.length → off ≤ ds.length → leavesOk l (cs.drop off) = true → leavesOk l (ds.drop off) = true →
      (Op.eqFields n xs ys fs).run P w = .ok (eqCells (cs.drop off) (ds.drop off)) w
  | [], off, l, h, _, _, h1, h2 => by
    simp [leavesFs] at h; subst h
    have e1 := leavesOk_length h1; have e2 := leavesOk_length h2
    simp only [List.length_nil, List.length_eq_zero_iff] at e1 e2
    rw [e1, e2]; simp [Op.eqFields, eqCells]
  | f :: fs, off, l, h, ho1, ho2, h1, h2 => by
    obtain ⟨lf, lr, hg, hn, ho, hz, hr, rfl⟩ := leavesFs_cons h
    obtain ⟨x, a, p1, r1, a1, c1, l1⟩ := field_of (w := w) hg hz rx ho1 h1
    obtain ⟨y, b, p2, r2, a2, c2, l2⟩ := field_of (w := w) hg hz ry ho2 h2
    have he := IH _ _ hg x y a b r1 r2 a1 a2 l1 l2
    have s1 := (leavesOk_append h1).2; have s2 := (leavesOk_append h2).2
    rw [List.drop_drop] at s1 s2
    have n1 := leavesOk_length h1; have n2 := leavesOk_length h2
    simp only [List.length_append, List.length_drop] at n1 n2
    have ih := eqFs IH rx ry fs _ _ hr (by omega) (by omega) s1 s2
    simp only [Op.eqFields, hn, ne_eq, not_false_eq_true, if_true, Sem.run_bind, ho, p1, p2, he, Result.andThen_ok]
    rw [← List.take_append_drop lf.length (cs.drop off), ← List.take_append_drop lf.length (ds.drop off), eqCells_append (by simp; omega), ← c1, ← c2, List.drop_drop, List.drop_drop]
    cases eqCells a.cells b.cells
    · simp
    · simpa using ih

theorem leaf_eq {c : Ctx} {n : Nat} {t : TypeId} {d : TypeDesc} {x y : Value} {a b : AVal} (hu : P.underlying t = some d) (rx : Rep c x a) (ry : Rep c y b) (h1 : leafOk d a = true) (h2 : leafOk d b = true) :
    (Op.equalIn (n + 1) t x y).run P w = .ok (a.eq1 b) w := by
  cases d <;> cases a <;> simp [leafOk] at h1 <;> cases b <;> simp [leafOk] at h2 <;> cases rx <;> cases ry
  · simp [Op.equalIn, run_underlying hu, AVal.eq1]
  · subst h1; subst h2
    simp [Op.equalIn, run_underlying hu, AVal.eq1]
  · rename_i s s'
    simp only [Op.equalIn, Sem.run_bind, run_underlying hu, Result.andThen_ok, Sem.run_pure, AVal.eq1]
    rw [beq_toListBytes, ByteArray.toList_eq, ByteArray.toList_eq]

theorem cells1 {a : AVal} (h : a.isAgg = false) : a.cells = [a] := by cases a <;> first | rfl | simp [AVal.isAgg] at h
theorem agg_inv {c : Ctx} {x : Value} {a : AVal} (r : Rep c x a) (h : a.isAgg = true) : ∃ xs, x = .agg xs ∧ RepA c xs a.cells := by
  cases r <;> simp [AVal.isAgg] at h
  rename_i xs cs h1 h2 h3
  exact ⟨xs, rfl, h1, fun j hj => ⟨h3 j hj, h2 _ (by
    simp only [AVal.cells] at hj ⊢
    simp only [List.getD_eq_getElem?_getD, List.getElem?_eq_getElem hj, Option.getD_some]
    exact List.getElem_mem hj)⟩⟩

theorem equalIn_ok (w : World) (c : Ctx) : ∀ (m : Nat) (t : TypeId) (l : List TypeDesc), leavesOf P m t = some l → ∀ n, m ≤ n → EqAt' P w c n t l
  | m, t, l, h, n, hn => by
    obtain ⟨m', rfl, ⟨d, rfl, hu, ha, _⟩ | ⟨fs, hu, ha, hst, hfs⟩⟩ := leaves_cases h
    · intro x y a b rx ry h1 h2 l1 l2
      rw [ha] at h1 h2
      obtain ⟨n, rfl⟩ : ∃ k, n = k + 1 := ⟨n - 1, by omega⟩
      rw [cells1 h1, cells1 h2] at *
      simp only [leavesOk, Bool.and_true] at l1 l2
      rw [leaf_eq hu rx ry l1 l2]
      simp [eqCells]
    · intro x y a b rx ry h1 h2 l1 l2
      rw [ha] at h1 h2
      obtain ⟨n, rfl⟩ : ∃ k, n = k + 1 := ⟨n - 1, by omega⟩
      obtain ⟨xs, rfl, rx'⟩ := agg_inv rx h1
      obtain ⟨ys, rfl, ry'⟩ := agg_inv ry h2
      have hf : P.fieldsOf t = fs := by simp [Program.fieldsOf, hu]
      rw [run_equalIn_struct w n t xs ys (by rw [hf]; exact hu) hst, hf]
      exact eqFs (m := m') (fun t l hl => equalIn_ok w c m' t l hl n (by omega)) rx' ry' fs.toList 0 l hfs (by omega) (by omega) l1 l2

theorem plainOk_inv {t : TypeId} {a : AVal} (h : plainOk P t a = true) : ∃ l, leavesOf P 100 t = some l ∧ a.isAgg = aggT P t ∧ leavesOk l a.cells = true ∧ P.eqGuardType P.depth t = false := by
  unfold plainOk at h
  split at h
  · rename_i l hl
    simp only [Bool.and_eq_true, beq_iff_eq, Bool.not_eq_true'] at h
    exact ⟨l, hl, h.1.1, h.2, h.1.2⟩
  · simp at h

theorem equal_ok (c : Ctx) {t : TypeId} {x y : Value} {a b : AVal} (ra : Rep c x a) (rb : Rep c y b) (ha : plainOk P t a = true) (hb : plainOk P t b = true) :
    (Op.equal t x y).run P w = .ok (eqCells a.cells b.cells) w := by
  obtain ⟨l, h1, h2, h3, _⟩ := plainOk_inv ha
  obtain ⟨l', h1', h4, h5, _⟩ := plainOk_inv hb
  rw [h1] at h1'; cases h1'
  exact equalIn_ok w c 100 t l h1 10000 (by omega) x y a b ra rb h2 h4 h3 h5

theorem guard_other {op : BinOp} {t : TypeId} {x y : Operand} {a b : Value} (h1 : a ≠ .nilIface ∨ b ≠ .nilIface) (h2 : a.oneCell' = true ∨ b.oneCell' = true) :
    (eqGuard op t x y a b).run P w = .ok () w := by
  unfold eqGuard
  cases op <;> simp <;> (cases a <;> cases b <;> simp_all [Value.oneCell'])

theorem guard_plain (c : Ctx) {op : BinOp} {t : TypeId} {ox oy : Operand} {x y : Value} {a b : AVal} (ra : Rep c x a) (rb : Rep c y b) (ha : plainOk P t a = true) (hb : plainOk P t b = true) :
    (eqGuard op t ox oy x y).run P w = .ok () w := by
  obtain ⟨l, h1, h2, h3, hg⟩ := plainOk_inv ha
  obtain ⟨l', h1', h4, h5, _⟩ := plainOk_inv hb
  rw [h1] at h1'; cases h1'
  obtain ⟨m', _, ⟨d, rfl, hu, hag, _⟩ | ⟨fs, hu, hag, hst, hfs⟩⟩ := leaves_cases h1
  · rw [hag] at h2 h4
    rw [cells1 h2] at h3
    have h3' : x ≠ .nilIface ∧ x.oneCell' = true := by
      simp only [leavesOk, Bool.and_true] at h3
      cases ra <;> cases d <;> simp [leafOk] at h3 <;> simp [Value.oneCell']
    exact guard_other (.inl h3'.1) (.inl h3'.2)
  · rw [hag] at h2 h4
    obtain ⟨xs, rfl, _⟩ := agg_inv ra h2
    obtain ⟨ys, rfl, _⟩ := agg_inv rb h4
    exact run_eqGuard_agg w op t ox oy xs ys hg

/-! ### Keys -/
def CkAt (P : Program) (w : World) (c : Ctx) (em : Bool) (n : Nat) (t : TypeId) (l : List TypeDesc) : Prop :=
  ∀ (x : Value) (a : AVal), Rep c x a → a.isAgg = aggT P t → leavesOk l a.cells = true → (Instr.checkKey em n t x).run P w = .ok () w

theorem ckFs {c : Ctx} {em : Bool} {n m : Nat} {xs : Array Value} {cs : List AVal} (IH : ∀ t l, leavesOf P m t = some l → CkAt P w c em n t l) (rx : RepA c xs cs) :
    ∀ (fs : List Field) (off : Nat) (l : List TypeDesc), leavesFs P (leavesOf P m) off fs = some l → off ≤ cs.length → leavesOk l (cs.drop off) = true →
      (forIn fs PUnit.unit fun f _ => do
        if f.name ≠ "_" then do
          let p ← Go.part f.type xs f.offset
          Instr.checkKey em n f.type p
          pure (ForInStep.yield PUnit.unit)
        else pure (ForInStep.yield PUnit.unit) : Sem PUnit).run P w = .ok PUnit.unit w
  | [], off, l, h, _, h1 => by simp
  | f :: fs, off, l, h, ho1, h1 => by
    obtain ⟨lf, lr, hg, hn, ho, hz, hr, rfl⟩ := leavesFs_cons h
    obtain ⟨x, a, p1, r1, a1, c1, l1⟩ := field_of (w := w) hg hz rx ho1 h1
    have he := IH _ _ hg x a r1 a1 l1
    have s1 := (leavesOk_append h1).2
    rw [List.drop_drop] at s1
    have n1 := leavesOk_length h1
    simp only [List.length_append, List.length_drop] at n1
    have ih := ckFs IH rx fs _ _ hr (by omega) s1
    simp only [List.forIn_cons, Sem.run_bind, hn, ne_eq, not_false_eq_true, if_true, ho, p1, he, Result.andThen_ok, Sem.run_pure]
    exact ih

theorem checkKey_ok (w : World) (c : Ctx) (em : Bool) : ∀ (m : Nat) (t : TypeId) (l : List TypeDesc), leavesOf P m t = some l → ∀ n, m ≤ n → CkAt P w c em n t l
  | m, t, l, h, n, hn => by
    obtain ⟨m', rfl, ⟨d, rfl, hu, ha, hd⟩ | ⟨fs, hu, ha, hst, hfs⟩⟩ := leaves_cases h
    · intro x a rx h1 l1
      obtain ⟨n, rfl⟩ : ∃ k, n = k + 1 := ⟨n - 1, by omega⟩
      rcases hd with rfl | rfl | ⟨k, rfl⟩ <;> simp [Instr.checkKey, run_underlying hu]
    · intro x a rx h1 l1
      rw [ha] at h1
      obtain ⟨n, rfl⟩ : ∃ k, n = k + 1 := ⟨n - 1, by omega⟩
      obtain ⟨xs, rfl, rx'⟩ := agg_inv rx h1
      simp only [Instr.checkKey, Sem.run_bind, run_underlying hu, Result.andThen_ok]
      rw [← Array.forIn_toList]
      rw [ckFs (m := m') (fun t l hl => checkKey_ok w c em m' t l hl n (by omega)) rx' fs.toList 0 l hfs (by omega) l1]
      rfl

theorem check_ok (c : Ctx) {em : Bool} {t : TypeId} {x : Value} {a : AVal} (ra : Rep c x a) (ha : plainOk P t a = true) : (Instr.checkKey em 10000 t x).run P w = .ok () w := by
  obtain ⟨l, h1, h2, h3, _⟩ := plainOk_inv ha
  exact checkKey_ok w c em 100 t l h1 10000 (by omega) x a ra h2 h3

/-! ### The same key is the same value -/
theorem leaf_same {c : Ctx} {d : TypeDesc} {x y : Value} {a b : AVal} (rx : Rep c x a) (ry : Rep c y b) (h1 : leafOk d a = true) (h2 : leafOk d b = true) (he : a.eq1 b = true) : x = y ∧ a = b := by
  cases d <;> cases a <;> simp [leafOk] at h1 <;> cases b <;> simp [leafOk] at h2 <;> cases rx <;> cases ry
  · simp [AVal.eq1] at he; subst he; exact ⟨rfl, rfl⟩
  · subst h1; subst h2; simp [AVal.eq1] at he; subst he; exact ⟨rfl, rfl⟩
  · rename_i s s'
    simp only [AVal.eq1, beq_iff_eq] at he
    have : s = s' := by
      obtain ⟨⟨s⟩⟩ := s; obtain ⟨⟨s'⟩⟩ := s'
      simp at he; subst he; rfl
    subst this; exact ⟨rfl, rfl⟩

theorem cells_same {c : Ctx} : ∀ {l : List TypeDesc} {cs ds : List AVal} {xs ys : List Value}, leavesOk l cs = true → leavesOk l ds = true → eqCells cs ds = true → xs.length = cs.length → ys.length = ds.length →
    (∀ j, j < cs.length → Rep c (xs.getD j undef) (cs.getD j .undef)) → (∀ j, j < ds.length → Rep c (ys.getD j undef) (ds.getD j .undef)) → xs = ys ∧ cs = ds
  | [], [], [], xs, ys, _, _, _, h1, h2, _, _ => by
    simp only [List.length_nil, List.length_eq_zero_iff] at h1 h2; subst h1; subst h2; exact ⟨rfl, rfl⟩
  | d :: l, a :: cs, b :: ds, x :: xs, y :: ys, h1, h2, he, n1, n2, r1, r2 => by
    simp only [leavesOk, Bool.and_eq_true] at h1 h2
    simp only [eqCells, Bool.and_eq_true] at he
    have q1 := r1 0 (by simp); have q2 := r2 0 (by simp)
    simp only [List.getD_cons_zero] at q1 q2
    obtain ⟨rfl, rfl⟩ := leaf_same q1 q2 h1.1 h2.1 he.1
    obtain ⟨rfl, rfl⟩ := cells_same h1.2 h2.2 he.2 (by simpa using n1) (by simpa using n2)
      (fun j hj => by have := r1 (j + 1) (by simpa using hj); simpa only [List.getD_cons_succ] using this)
      (fun j hj => by have := r2 (j + 1) (by simpa using hj); simpa only [List.getD_cons_succ] using this)
    exact ⟨rfl, rfl⟩
  | [], _ :: _, _, _, _, h1, _, _, _, _, _, _ => by simp [leavesOk] at h1
  | _ :: _, [], _, _, _, h1, _, _, _, _, _, _ => by simp [leavesOk] at h1
  | [], [], _ :: _, _, _, _, h1, _, _, _, _, _ => by simp [leavesOk] at h1
  | _ :: _, _ :: _, [], _, _, _, h1, _, _, _, _, _ => by simp [leavesOk] at h1
  | _ :: _, _ :: _, _ :: _, [], _, _, _, _, n1, _, _, _ => by simp at n1
  | _ :: _, _ :: _, _ :: _, _ :: _, [], _, _, _, _, n2, _, _ => by simp at n2

theorem key_same {c : Ctx} {t : TypeId} {x y : Value} {a b : AVal} (ra : Rep c x a) (rb : Rep c y b) (ha : plainOk P t a = true) (hb : plainOk P t b = true) (he : eqCells a.cells b.cells = true) : x = y ∧ a = b := by
  obtain ⟨l, h1, h2, h3, _⟩ := plainOk_inv ha
  obtain ⟨l', h1', h4, h5, _⟩ := plainOk_inv hb
  rw [h1] at h1'; cases h1'
  cases hag : aggT P t
  · rw [hag] at h2 h4
    have e1 := cells1 h2; have e2 := cells1 h4
    rw [e1] at h3 he; rw [e2] at h5 he
    obtain ⟨m', _, ⟨d, rfl, hu, hag', _⟩ | ⟨fs, hu, hag', hst, hfs⟩⟩ := leaves_cases h1
    · simp only [leavesOk, Bool.and_true] at h3 h5
      simp only [eqCells, Bool.and_true] at he
      exact leaf_same ra rb h3 h5 he
    · rw [hag] at hag'; simp at hag'
  · rw [hag] at h2 h4
    obtain ⟨xs, rfl, rx⟩ := agg_inv ra h2
    obtain ⟨ys, rfl, ry⟩ := agg_inv rb h4
    obtain ⟨h6, h7⟩ := cells_same (c := c) (xs := xs.toList) (ys := ys.toList) h3 h5 he (by simpa using rx.1) (by simpa using ry.1)
      (fun j hj => by simpa using (rx.2 j hj).1) (fun j hj => by simpa using (ry.2 j hj).1)
    refine ⟨?_, ?_⟩
    · congr 1; exact Array.toList_inj.1 h6
    · cases a <;> simp [AVal.isAgg] at h2
      cases b <;> simp [AVal.isAgg] at h4
      simp only [AVal.cells] at h7
      rw [h7]

theorem leaf_bits {c : Ctx} {d : TypeDesc} {x : Value} {a : AVal} (rx : Rep c x a) (h1 : leafOk d a = true) (n : Nat) : Instr.sameBits n x x = true := by
  cases d <;> cases a <;> simp [leafOk] at h1 <;> cases rx <;> simp [Instr.sameBits, beq_toListBytes]

theorem key_stays {c : Ctx} {t : TypeId} {x : Value} {a : AVal} (ra : Rep c x a) (ha : plainOk P t a = true) : (Instr.keyThatStays x x).run P w = .ok x w := by
  obtain ⟨l, h1, h2, h3, _⟩ := plainOk_inv ha
  have hb : Instr.sameBits 10000 x x = true := by
    cases hag : aggT P t
    · rw [hag] at h2
      rw [cells1 h2] at h3
      obtain ⟨m', _, ⟨d, rfl, hu, hag', _⟩ | ⟨fs, hu, hag', hst, hfs⟩⟩ := leaves_cases h1
      · simp only [leavesOk, Bool.and_true] at h3
        exact leaf_bits ra h3 _
      · rw [hag] at hag'; simp at hag'
    · rw [hag] at h2
      obtain ⟨xs, rfl, rx⟩ := agg_inv ra h2
      have : ∀ (l : List TypeDesc) (cs : List AVal) (xs : List Value), leavesOk l cs = true → xs.length = cs.length → (∀ j, j < cs.length → Rep c (xs.getD j undef) (cs.getD j .undef)) →
          ((xs.zip xs).all fun p => Instr.sameBits 9999 p.1 p.2) = true := by
        intro l
        induction l with
        | nil => intro cs xs h hl _; cases cs <;> simp [leavesOk] at h; simp at hl; subst hl; simp
        | cons d l ih =>
          intro cs xs h hl hr
          cases cs with
          | nil => simp [leavesOk] at h
          | cons a cs =>
            cases xs with
            | nil => simp at hl
            | cons x xs =>
              simp only [leavesOk, Bool.and_eq_true] at h
              have q := hr 0 (by simp)
              simp only [List.getD_cons_zero] at q
              simp only [List.zip_cons_cons, List.all_cons, Bool.and_eq_true]
              refine ⟨leaf_bits q h.1 _, ih cs xs h.2 (by simpa using hl) (fun j hj => ?_)⟩
              have := hr (j + 1) (by simpa using hj)
              simpa only [List.getD_cons_succ] using this
      have h4 := this l a.cells xs.toList h3 (by simpa using rx.1) (fun j hj => by simpa using (rx.2 j hj).1)
      show Instr.sameBits (9999 + 1) (.agg xs) (.agg xs) = true
      simp only [Instr.sameBits, beq_self_eq_true, Bool.true_and]
      exact h4
  simp [Instr.keyThatStays, hb]
end Go.Weave
end

section
/- The evaluator's pure operations do what the machine's do. -/
namespace Go.Weave
variable {P : Program} {w : World} {R : Type} {Q : R → Prop}

theorem run_zero {t : TypeId} {z : AVal} (h : zeroOf P t = some z) (c : Ctx) : ∃ v, (zeroValue t).run P w = .ok v w ∧ Rep c v z := by
  unfold zeroOf at h
  cases hi : P.info? t with
  | none => simp [hi] at h
  | some i =>
    cases hz : i.zero with
    | none => simp [hi, hz] at h
    | some v =>
      simp [hi, hz] at h
      exact ⟨v, by simp [zeroValue, typeInfo, hi, hz], ofZero_rep c h⟩

theorem run_zeroA {t : TypeId} {z : AVal} (h : zeroOf P t = some z) (c : Ctx) : ∃ v, (∀ w, (zeroValue t).run P w = .ok v w) ∧ Rep c v z := by
  unfold zeroOf at h
  cases hi : P.info? t with
  | none => simp [hi] at h
  | some i =>
    cases hz : i.zero with
    | none => simp [hi, hz] at h
    | some v =>
      simp [hi, hz] at h
      exact ⟨v, fun w => by simp [zeroValue, typeInfo, hi, hz], ofZero_rep c h⟩

/-! ### Shapes -/
theorem isInt_spec {k : IntKind} {a : AVal} (h : a.isInt k = true) : a = .int k a.toInt := by
  cases a <;> simp [AVal.isInt] at h
  subst h; rfl
theorem isBool_spec {a : AVal} (h : a.isBool = true) : a = .bool a.toBool := by cases a <;> simp [AVal.isBool] at h; rfl
theorem isStr_spec {a : AVal} (h : a.isStr = true) : a = .str a.toStr := by cases a <;> simp [AVal.isStr] at h; rfl
theorem isMap_spec {a : AVal} (h : a.isMap = true) : a = .map a.toId := by cases a <;> simp [AVal.isMap] at h; rfl
theorem isSl_spec {sz : Nat} {a : AVal} (h : a.isSl sz = true) : ∃ z, a = .sl a.toFull z a.toEs ∧ (z == sz || a.toEs.isEmpty) = true := by
  cases a <;> simp [AVal.isSl] at h
  rename_i f z es
  exact ⟨z, rfl, by simpa [AVal.toEs] using h⟩
theorem isAggOf_spec {n : Nat} {a : AVal} (h : a.isAggOf n = true) : a = .agg a.cells ∧ a.cells.length = n ∧ a.isAgg = true := by
  cases a <;> simp [AVal.isAggOf] at h
  exact ⟨rfl, h, rfl⟩

theorem Rep.isSl {c : Ctx} {v : Value} {a : AVal} {sz : Nat} (r : Rep c v a) (h : a.isSl sz = true) : Rep c v (.sl a.toFull sz a.toEs) := by
  obtain ⟨z, e, hz⟩ := isSl_spec h
  rw [e] at r
  exact r.slEmpty hz

theorem coerce_ok {c : Ctx} {t : TypeId} {v : Value} {a : AVal} {K : AVal → Tr R} (r : Rep c v a) (h : (coerce P t a K).All Q) :
    ∃ a', Rep c v a' ∧ a'.isAgg = a.isAgg ∧ (∃ d, P.underlying t = some d) ∧ (K a').All Q := by
  unfold coerce at h
  split at h
  · rename_i k hu
    obtain ⟨hb, h⟩ := all_bif h
    rw [isInt_spec hb] at r ⊢
    exact ⟨_, r, rfl, ⟨_, hu⟩, h⟩
  · rename_i hu
    obtain ⟨hb, h⟩ := all_bif h
    rw [isBool_spec hb] at r ⊢
    exact ⟨_, r, rfl, ⟨_, hu⟩, h⟩
  · rename_i hu
    obtain ⟨hb, h⟩ := all_bif h
    rw [isStr_spec hb] at r ⊢
    exact ⟨_, r, rfl, ⟨_, hu⟩, h⟩
  · rename_i e hu
    obtain ⟨hb, h⟩ := all_bif h
    refine ⟨_, r.isSl hb, ?_, ⟨_, hu⟩, h⟩
    obtain ⟨z, e, _⟩ := isSl_spec hb
    rw [e]; rfl
  · rename_i hu
    obtain ⟨hb, h⟩ := all_bif h
    obtain ⟨e, _, _⟩ := isAggOf_spec hb
    rw [e] at r ⊢
    exact ⟨_, r, rfl, ⟨_, hu⟩, h⟩
  · rename_i hu
    obtain ⟨hb, h⟩ := all_bif h
    obtain ⟨e, _, _⟩ := isAggOf_spec hb
    rw [e] at r ⊢
    exact ⟨_, r, rfl, ⟨_, hu⟩, h⟩
  · rename_i d _ _ _ _ _ _ hu
    exact ⟨a, r, rfl, ⟨d, hu⟩, h⟩
  · exact h.elim

theorem coerceS_ok {S : Sc} {t : TypeId} {v : Value} {s : SV} {K : SV → Tr R} (r : RepS S v s) (h : (coerceS P t s K).All Q) : ∃ s', RepS S v s' ∧ (K s').All Q := by
  unfold coerceS at h
  split at h
  · obtain ⟨a', r', _, _, h'⟩ := coerce_ok (c := S.c) r h
    exact ⟨.val a', r', h'⟩
  · split at h
    · rename_i id off z es e hu
      obtain ⟨hb, h⟩ := all_bif h
      exact ⟨.bor _ _ _ _, ⟨r.1.slEmpty hb, r.2⟩, h⟩
    · exact h.elim
  · exact ⟨s, r, h⟩

theorem intOf_ok {v : EV} {K : Int → Tr R} (h : (intOf v K).All Q) : ∃ k n, v = .one (.val (.int k n)) ∧ (K n).All Q := by
  unfold intOf at h
  split at h
  · exact ⟨_, _, rfl, h⟩
  · exact h.elim

theorem binInt_ok {c : Ctx} {op : BinOp} {t : TypeId} {k k' : IntKind} {a b : Int} {K : AVal → Tr R} (h : (binK P op t (.int k a) (.int k' b) K).All Q) :
    ∃ v a', (∀ w, (binOp op t (.int k a) (.int k' b)).run P w = .ok v w) ∧ Rep c v a' ∧ (K a').All Q := by
  simp only [binK] at h
  split at h
  · cases hb : decide (b < 0) <;> simp only [hb, cond_true, cond_false] at h
    · have hb' : ¬ b < 0 := by simpa using hb
      exact ⟨_, _, fun w => by simp [binOp, Op.shift, hb'], .int _ _, h⟩
    · exact h.elim
  · cases hb : decide (b < 0) <;> simp only [hb, cond_true, cond_false] at h
    · have hb' : ¬ b < 0 := by simpa using hb
      exact ⟨_, _, fun w => by simp [binOp, Op.shift, hb'], .int _ _, h⟩
    · exact h.elim
  · obtain ⟨hk, h1⟩ := all_bif h
    clear h
    rename _ => h
    have hk' : k = k' := by simpa using hk
    subst hk'
    cases hb : decide (b = 0) <;> simp only [hb, cond_true, cond_false] at h
    · have hb' : ¬ b = 0 := by simpa using hb
      exact ⟨_, _, fun w => by simp [binOp, Op.intDiv, hb'], .int _ _, h⟩
    · exact h.elim
  · obtain ⟨hk, h1⟩ := all_bif h
    clear h
    rename _ => h
    have hk' : k = k' := by simpa using hk
    subst hk'
    cases hb : decide (b = 0) <;> simp only [hb, cond_true, cond_false] at h
    · have hb' : ¬ b = 0 := by simpa using hb
      exact ⟨_, _, fun w => by simp [binOp, Op.intDiv, hb'], .int _ _, h⟩
    · exact h.elim
  · obtain ⟨hk, h1⟩ := all_bif h
    clear h
    have hk' : k = k' := by simpa using hk
    subst hk'
    obtain ⟨a', ha, h⟩ := all_optK h1
    cases op <;> simp only [intBin, Option.some.injEq, reduceCtorEq] at ha <;> subst ha
    case add | sub | mul => exact ⟨_, _, fun w => by simp [binOp, Op.intArith], .int _ _, h⟩
    case and | or | xor | andNot => exact ⟨_, _, fun w => by simp only [binOp, ne_eq, not_true_eq_false, if_false]; rfl, .int _ _, h⟩
    all_goals exact ⟨_, _, fun w => by simp [binOp, Op.intCmp], .bool _, h⟩

theorem toList_append (x y : ByteArray) : (x ++ y).data.toList = x.data.toList ++ y.data.toList := by
  simp [ByteArray.data_append]

theorem binStr_ok {c : Ctx} {op : BinOp} {t : TypeId} {a b : ByteArray} {K : AVal → Tr R} (h : (binK P op t (.str a.data.toList) (.str b.data.toList) K).All Q) :
    ∃ v a', (∀ w, (binOp op t (.string a) (.string b)).run P w = .ok v w) ∧ Rep c v a' ∧ (K a').All Q := by
  simp only [binK] at h
  split at h
  · obtain ⟨hb, h⟩ := all_bif h
    have hb' : a.size + b.size ≤ 140737488355328 := by simpa using hb
    refine ⟨.string (a ++ b), _, fun w => ?_, .str _, by rw [toList_append]; exact h⟩
    have : ¬ ((a.size + b.size : Nat) : Int) > IntKind.i64.max := by
      have : IntKind.i64.max = 9223372036854775807 := by decide
      omega
    simp only [binOp, Op.stringOp, if_neg this]; rfl
  · obtain ⟨a', ha, h⟩ := all_optK h
    cases op <;> simp only [strBin, Option.some.injEq, reduceCtorEq] at ha <;> subst ha
    all_goals exact ⟨_, _, fun w => by simp only [binOp, Op.stringOp, ByteArray.toList_eq]; rfl, .bool _, h⟩

theorem sameNil (c : Ctx) {v : Value} {a : AVal} (r : Rep c v a) (h : a.isPtr = true) : ∃ p, v = .pointer p ∧ p.isNone = a.isNilp := by
  cases r <;> simp [AVal.isPtr] at h
  · exact ⟨none, rfl, rfl⟩
  · exact ⟨_, rfl, rfl⟩
  · exact ⟨_, rfl, rfl⟩

theorem plainOk_agg {c : Ctx} {t : TypeId} {a : AVal} {v : Value} (h : aggT P t = true) (h2 : plainOk P t a = true) (r : Rep c v a) : ∃ xs, v = .agg xs := by
  unfold plainOk at h2
  split at h2
  · simp only [h, Bool.and_eq_true, beq_iff_eq] at h2
    have h3 := h2.1
    cases r <;> first | exact ⟨_, rfl⟩ | simp [AVal.isAgg] at h3
  · simp at h2

theorem equal_bool {t : TypeId} (h : P.underlying t = some .bool) (a b : Bool) : (Op.equal t (.bool a) (.bool b)).run P w = .ok (a == b) w := by
  show (Op.equalIn (9999 + 1) t (.bool a) (.bool b)).run P w = _
  rw [Op.equalIn]
  simp only [Sem.run_bind, run_underlying h, Result.andThen_ok]
  rfl
theorem equal_nil {t e : TypeId} (h : P.underlying t = some (.pointer e)) (p : Option Addr) : (Op.equal t (.pointer p) (.pointer none)).run P w = .ok p.isNone w := by
  show (Op.equalIn (9999 + 1) t (.pointer p) (.pointer none)).run P w = _
  rw [Op.equalIn]
  simp only [Sem.run_bind, run_underlying h, Result.andThen_ok]
  cases p <;> rfl

theorem guardThen {g : Sem Unit} {X : Sem Value} {C : Value → AVal → Prop} (hg : ∀ w, g.run P w = .ok () w) (h : ∃ v a', (∀ w, X.run P w = .ok v w) ∧ C v a') :
    ∃ v a', (∀ w, (g.run P w).andThen (fun _ w' => X.run P w') = .ok v w) ∧ C v a' := by
  obtain ⟨v, a', h1, h2⟩ := h
  exact ⟨v, a', fun w => by rw [hg w]; exact h1 w, h2⟩

/-! ### Arrays of plain data -/
theorem arrOk_inv {n : Nat} {e : TypeId} {v : AVal} (h : arrOk P n e v = true) : ∃ d, P.underlying e = some d ∧ aggT P e = false ∧ v.isAgg = true ∧ v.cells.length = n ∧ ∀ x ∈ v.cells, leafOk d x = true := by
  unfold arrOk at h
  have key : ∀ d, (v.isAggOf n && v.cells.all (leafOk d)) = true → v.isAgg = true ∧ v.cells.length = n ∧ ∀ x ∈ v.cells, leafOk d x = true := fun d h => by
    simp only [Bool.and_eq_true, List.all_eq_true] at h
    cases v <;> simp [AVal.isAggOf] at h
    exact ⟨rfl, h.1, h.2⟩
  split at h
  · rename_i hu; exact ⟨_, hu, by simp [aggT, hu], key _ h⟩
  · rename_i k hu; exact ⟨_, hu, by simp [aggT, hu], key _ h⟩
  · rename_i hu; exact ⟨_, hu, by simp [aggT, hu], key _ h⟩
  · simp at h
theorem eqItems_ok {c : Ctx} {n : Nat} {e : TypeId} {d : TypeDesc} {xs ys : Array Value} {cs ds : List AVal} (hu : P.underlying e = some d) (ha : aggT P e = false) (hone : P.cellsOf e = 1) (rx : RepA c xs cs) (ry : RepA c ys ds)
    (hl : cs.length = ds.length) (h1 : ∀ x ∈ cs, leafOk d x = true) (h2 : ∀ x ∈ ds, leafOk d x = true) :
    ∀ (m off : Nat), off + m = cs.length → (Op.eqItems (n + 1) e (P.cellsOf e) xs ys (List.range' off m)).run P w = .ok (eqCells (cs.drop off) (ds.drop off)) w
  | 0, off, hm => by
    rw [List.drop_eq_nil_of_le (by omega), List.drop_eq_nil_of_le (by omega)]
    simp [Op.eqItems, eqCells]
  | m + 1, off, hm => by
    have l1 : off < cs.length := by omega
    have l2 : off < ds.length := by omega
    obtain ⟨x, p1, r1⟩ := part_run hu rx (off := off) (by simp [ha]; omega)
    obtain ⟨y, p2, r2⟩ := part_run hu ry (off := off) (by simp [ha]; omega)
    simp only [ha, cond_false] at r1 r2
    have g1 : cs.getD off .undef = cs[off] := by simp [l1]
    have g2 : ds.getD off .undef = ds[off] := by simp [l2]
    rw [g1] at r1
    rw [g2] at r2
    have he := leaf_eq (w := w) (n := n) hu r1 r2 (h1 _ (List.getElem_mem l1)) (h2 _ (List.getElem_mem l2))
    have ih := eqItems_ok (n := n) hu ha hone rx ry hl h1 h2 m (off + 1) (by omega)
    rw [List.range'_succ]
    simp only [Op.eqItems, Sem.run_bind, hone, Nat.mul_one, p1, p2, he, Result.andThen_ok]
    rw [hone] at ih
    rw [List.drop_eq_getElem_cons l1, List.drop_eq_getElem_cons l2]
    simp only [eqCells]
    cases cs[off].eq1 ds[off]
    · simp
    · simpa using ih
theorem equal_arr (c : Ctx) {t e : TypeId} {n : Nat} {x y : Value} {a b : AVal} (hu : P.underlying t = some (.array n e)) (ra : Rep c x a) (rb : Rep c y b) (ha : arrOk P n e a = true) (hb : arrOk P n e b = true) (hone : P.cellsOf e = 1) :
    (Op.equal t x y).run P w = .ok (eqCells a.cells b.cells) w := by
  obtain ⟨d, hd, hag, a1, a2, a3⟩ := arrOk_inv ha
  obtain ⟨d', hd', _, b1, b2, b3⟩ := arrOk_inv hb
  rw [hd] at hd'; cases hd'
  obtain ⟨xs, rfl, rx⟩ := agg_inv ra a1
  obtain ⟨ys, rfl, ry⟩ := agg_inv rb b1
  obtain ⟨i, hi⟩ := info_of_und hd
  show (Op.equalIn 10000 t _ _).run P w = _
  rw [run_equalIn_array w 9999 xs ys hu hi]
  have := eqItems_ok (w := w) (n := 9998) hd hag hone rx ry (by omega) a3 b3 n 0 (by omega)
  rw [List.range_eq_range']
  simpa using this

theorem plainE_agg {c : Ctx} {t : TypeId} {x y : Value} {a b : AVal} (h1 : aggT P t = true) (h2 : plainE P t a = true) (h3 : plainE P t b = true) (ra : Rep c x a) (rb : Rep c y b) : ∃ xs ys, x = .agg xs ∧ y = .agg ys := by
  unfold plainE at h2 h3
  split at h2
  · rename_i n e hu
    rw [hu] at h3
    simp only [Bool.and_eq_true] at h2 h3
    obtain ⟨_, _, _, a1, _⟩ := arrOk_inv h2.2
    obtain ⟨_, _, _, b1, _⟩ := arrOk_inv h3.2
    obtain ⟨xs, rfl, _⟩ := agg_inv ra a1
    obtain ⟨ys, rfl, _⟩ := agg_inv rb b1
    exact ⟨_, _, rfl, rfl⟩
  · rename_i hn
    split at h3
    · rename_i n e hu; exact absurd hu (hn n e)
    · obtain ⟨xs, rfl⟩ := plainOk_agg h1 h2 ra
      obtain ⟨ys, rfl⟩ := plainOk_agg h1 h3 rb
      exact ⟨_, _, rfl, rfl⟩
theorem guard_plainE (c : Ctx) {op : BinOp} {t : TypeId} {ox oy : Operand} {x y : Value} {a b : AVal} (ra : Rep c x a) (rb : Rep c y b) (ha : plainE P t a = true) (hb : plainE P t b = true) :
    (eqGuard op t ox oy x y).run P w = .ok () w := by
  unfold plainE at ha hb
  split at ha
  · rename_i n e hu
    rw [hu] at hb
    simp only [Bool.and_eq_true, Bool.not_eq_true'] at ha hb
    obtain ⟨_, _, _, a1, _⟩ := arrOk_inv ha.2
    obtain ⟨_, _, _, b1, _⟩ := arrOk_inv hb.2
    obtain ⟨xs, rfl, _⟩ := agg_inv ra a1
    obtain ⟨ys, rfl, _⟩ := agg_inv rb b1
    exact run_eqGuard_agg w op t ox oy xs ys ha.1.2
  · rename_i hn
    split at hb
    · rename_i n e hu; exact absurd hu (hn n e)
    · exact guard_plain c ra rb ha hb
theorem equal_okE (c : Ctx) {t : TypeId} {x y : Value} {a b : AVal} (ra : Rep c x a) (rb : Rep c y b) (ha : plainE P t a = true) (hb : plainE P t b = true) :
    (Op.equal t x y).run P w = .ok (eqCells a.cells b.cells) w := by
  unfold plainE at ha hb
  split at ha
  · rename_i n e hu
    rw [hu] at hb
    simp only [Bool.and_eq_true, beq_iff_eq] at ha hb
    exact equal_arr c hu ra rb ha.2 hb.2 ha.1.1
  · rename_i hn
    split at hb
    · rename_i n e hu; exact absurd hu (hn n e)
    · exact equal_ok c ra rb ha hb

theorem binK_ok {c : Ctx} {op : BinOp} {t : TypeId} {ox oy : Operand} {x y : Value} {a b : AVal} {K : AVal → Tr R} (ra : Rep c x a) (rb : Rep c y b) (h : (binK P op t a b K).All Q) :
    ∃ v a', (∀ w, (do eqGuard op t ox oy x y; binOp op t x y : Sem Value).run P w = .ok v w) ∧ Rep c v a' ∧ (K a').All Q := by
  simp only [Sem.run_bind]
  unfold binK at h
  split at h
  · cases ra; cases rb
    refine guardThen (fun w => guard_other (.inl (by simp)) (.inl rfl)) ?_
    exact binInt_ok h
  · cases ra; cases rb
    refine guardThen (fun w => guard_other (.inl (by simp)) (.inl rfl)) ?_
    exact binStr_ok h
  · cases ra; cases rb
    refine guardThen (fun w => guard_other (.inl (by simp)) (.inl rfl)) ?_
    split at h
    · rename_i hu
      exact ⟨_, _, fun w => by simp only [binOp, Result.andThen_ok, Sem.run_bind, equal_bool hu]; rfl, .bool _, h⟩
    · rename_i hu
      exact ⟨_, _, fun w => by simp only [binOp, Result.andThen_ok, Sem.run_bind, equal_bool hu]; rfl, .bool _, h⟩
    · exact h.elim
  · cases rb
    split at h
    · rename_i e hu
      obtain ⟨hp, h⟩ := all_bif h
      obtain ⟨p, rfl, hn⟩ := sameNil c ra hp
      refine guardThen (fun w => guard_other (.inl (by simp)) (.inl rfl)) ?_
      refine ⟨_, _, fun w => ?_, .bool _, h⟩
      rw [← hn]
      simp only [binOp, Result.andThen_ok, Sem.run_bind, equal_nil hu]; rfl
    · rename_i e hu
      obtain ⟨hp, h⟩ := all_bif h
      obtain ⟨p, rfl, hn⟩ := sameNil c ra hp
      refine guardThen (fun w => guard_other (.inl (by simp)) (.inl rfl)) ?_
      refine ⟨_, _, fun w => ?_, .bool _, h⟩
      rw [← hn]
      simp only [binOp, Result.andThen_ok, Sem.run_bind, equal_nil hu]; rfl
    · exact h.elim
  · split at h
    · obtain ⟨hp, h⟩ := all_bif h
      simp only [Bool.and_eq_true] at hp
      refine guardThen (fun w => guard_plainE c ra rb hp.1.2 hp.2) ?_
      obtain ⟨xs, ys, rfl, rfl⟩ := plainE_agg hp.1.1 hp.1.2 hp.2 ra rb
      exact ⟨_, _, fun w => by simp only [binOp, Result.andThen_ok, Sem.run_bind, equal_okE c ra rb hp.1.2 hp.2]; rfl, .bool _, h⟩
    · obtain ⟨hp, h⟩ := all_bif h
      simp only [Bool.and_eq_true] at hp
      refine guardThen (fun w => guard_plainE c ra rb hp.1.2 hp.2) ?_
      obtain ⟨xs, ys, rfl, rfl⟩ := plainE_agg hp.1.1 hp.1.2 hp.2 ra rb
      exact ⟨_, _, fun w => by simp only [binOp, Result.andThen_ok, Sem.run_bind, equal_okE c ra rb hp.1.2 hp.2]; rfl, .bool _, h⟩
    · exact h.elim

theorem unK_ok {c : Ctx} {op : UnOp} {x : Value} {a : AVal} {K : AVal → Tr R} (ra : Rep c x a) (h : (unK op a K).All Q) :
    ∃ v a', (∀ w, (Op.unary op x).run P w = .ok v w) ∧ Rep c v a' ∧ (K a').All Q := by
  unfold unK at h
  split at h
  · cases ra; exact ⟨_, _, fun w => rfl, .bool _, h⟩
  · cases ra; exact ⟨_, _, fun w => rfl, .int _ _, h⟩
  · cases ra; exact ⟨_, _, fun w => rfl, .int _ _, h⟩
  · exact h.elim
end Go.Weave
end

section
/- The evaluator's looks into slices and memory do what the machine's do. -/
namespace Go.Weave
variable {P : Program} {w : World} {R : Type} {Q : R → Prop}

theorem elOk_spec {t : TypeId} (h : elOk P t = true) : 0 < szOf P t ∧ cnt (shp P t) = szOf P t := by
  unfold elOk at h
  simp only [Bool.and_eq_true, decide_eq_true_eq, Bool.or_eq_true, beq_iff_eq] at h
  refine ⟨h.1.1, ?_⟩
  unfold shp cnt
  cases ha : aggT P t
  · have := h.1.2.resolve_left (by simp [ha])
    simp [this]
  · simp

theorem shp_agg {t : TypeId} : (!(shp P t == 0)) = aggT P t := by
  unfold shp
  cases aggT P t <;> simp

theorem part_length {α : Type} {l h : Int} {xs : List α} (h0 : 0 ≤ l) (h1 : l ≤ h) (h2 : h ≤ xs.length) : (part l h xs).length = (h - l).toNat := by
  simp [part]; omega

theorem part_getD {α : Type} {l h : Int} {xs : List α} (d : α) {i : Nat} (h0 : 0 ≤ l) (h2 : h ≤ xs.length) (hi : i < (h - l).toNat) :
    (part l h xs).getD i d = xs.getD (l.toNat + i) d := by
  have hx : l.toNat + i < xs.length := by omega
  simp [part, hi, List.getElem?_drop]

theorem part_mem {α : Type} {l h : Int} {xs : List α} {x : α} (hx : x ∈ part l h xs) : x ∈ xs :=
  List.mem_of_mem_drop (List.mem_of_mem_take hx)

/-- A row of a slice's elements. -/
structure SlAt (c : Ctx) (b off cap : Nat) (full : Bool) (sz : Nat) (es : List AVal) : Prop where
  hcap : es.length ≤ cap
  hfull : full = true → cap = es.length
  hcells : ∃ (lim : Nat) (f : Nat → Nat → Value), c.κ b = some lim ∧ off + es.length * cnt sz ≤ lim ∧ (∀ e ∈ es, okEl sz e) ∧
    (∀ i j, i < es.length → j < cnt sz → c.w.cell? ⟨b, off + i * cnt sz + j, none⟩ = some (f i j)) ∧
    (∀ i j, i < es.length → j < cnt sz → Rep c (f i j) ((es.getD i .undef).cells.getD j .undef))

theorem SlAt.rep {c : Ctx} {b off cap : Nat} {full : Bool} {sz : Nat} {es : List AVal} (h : SlAt c b off cap full sz es) :
    Rep c (.slice (some ⟨b, off, none⟩) es.length cap) (.sl full sz es) := by
  obtain ⟨lim, f, hk, hl, he, hc, hr⟩ := h.hcells
  exact .sl b off cap lim full sz es f h.hcap h.hfull hk hl he hc hr

theorem Rep.slInv {c : Ctx} {v : Value} {full : Bool} {sz : Nat} {es : List AVal} (r : Rep c v (.sl full sz es)) :
    (∃ x, v = .slice x 0 0 ∧ es = []) ∨ ∃ b off cap, v = .slice (some ⟨b, off, none⟩) es.length cap ∧ SlAt c b off cap full sz es := by
  cases r with
  | slnil x => exact .inl ⟨x, rfl, rfl⟩
  | sl b off cap lim _ _ _ f hcap hf hk hl he hc hr => exact .inr ⟨b, off, cap, rfl, hcap, hf, lim, f, hk, hl, he, hc, hr⟩

/-- A piece of what stands in a row is what stands in the piece of the row. -/
theorem SlAt.part {c : Ctx} {b off cap : Nat} {full full' : Bool} {sz : Nat} {es : List AVal} {l h : Int} (r : SlAt c b off cap full sz es)
    (h0 : 0 ≤ l) (h1 : l ≤ h) (h2 : h ≤ es.length) {cap' : Nat} (hc' : (h - l).toNat ≤ cap') (hf : full' = true → cap' = (h - l).toNat) :
    SlAt c b (off + l.toNat * cnt sz) cap' full' sz (part l h es) := by
  obtain ⟨hcap, hf', lim, f, hk, hl, he, hc, hr⟩ := r
  have hlen := part_length h0 h1 h2
  have key : (l.toNat + (h - l).toNat) * cnt sz ≤ es.length * cnt sz := Nat.mul_le_mul_right _ (by omega)
  rw [Nat.add_mul] at key
  refine ⟨by omega, by rw [hlen]; exact hf, lim, fun i j => f (l.toNat + i) j, hk, by rw [hlen]; omega, fun e h => he e (part_mem h), fun i j hi hj => ?_, fun i j hi hj => ?_⟩
  · rw [hlen] at hi
    have := hc (l.toNat + i) j (by omega) hj
    rw [Nat.add_mul] at this
    rw [← this]; congr 2; omega
  · rw [hlen] at hi
    rw [part_getD _ h0 h2 hi]
    exact hr _ j (by omega) hj

theorem repE_val {S : Sc} {v : Value} {a : AVal} (h : Rep S.c v a) : RepE S v (.one (.val a)) := h
theorem repE_own {S : Sc} {v : Value} {g sz : Nat} {es : List AVal} (h : Rep S.c v (.sl false sz es) ∧ OwnAt S.c (S.β (.tok g)) sz v) : RepE S v (.one (.own g sz es)) := h

def RepO (S : Sc) : Option Value → Option EV → Prop
  | none, none => True
  | some v, some e => RepE S v e
  | _, _ => False

theorem repE_int {S : Sc} {v : Value} {k : IntKind} {n : Int} (r : RepE S v (.one (.val (.int k n)))) : v = .int k n := by
  have : Rep S.c v (.int k n) := r
  cases this; rfl

theorem optInt_ok {S : Sc} {v : Option Value} {e : Option EV} {d : Int} {K : Int → Tr R} (r : RepO S v e) (h : (optInt e d K).All Q) :
    ∃ n, ((v = none ∧ n = d) ∨ (∃ k, v = some (.int k n))) ∧ (v = none ↔ e = none) ∧ (K n).All Q := by
  cases e with
  | none => cases v with
    | none => exact ⟨d, .inl ⟨rfl, rfl⟩, by simp, h⟩
    | some v => exact r.elim
  | some e =>
    cases v with
    | none => exact r.elim
    | some v =>
      obtain ⟨k, n, rfl, h⟩ := intOf_ok h
      exact ⟨n, .inr ⟨k, by rw [repE_int r]⟩, by simp, h⟩

theorem run_bound {k : IntKind} {n : Int} {y : Nat} {code : BoundsCode} (h0 : 0 ≤ n) (h1 : n ≤ y) : (Instr.sliceBound (.int k n) y code).run P w = .ok n.toNat w := by
  simp [Instr.sliceBound, asIntOf, h0, h1]

theorem all_and2 {a b c : Bool} : (a && b && c) = true ↔ a = true ∧ b = true ∧ c = true := by cases a <;> cases b <;> cases c <;> simp

/-- The bounds, with the high one or without, the third one absent. -/
theorem run_bounds2 {isS : Bool} {len cap : Nat} {vlo vhi : Option Value} {l h : Int}
    (hlo : (vlo = none ∧ l = 0) ∨ ∃ k, vlo = some (.int k l)) (hhi : (vhi = none ∧ h = len) ∨ ∃ k, vhi = some (.int k h)) (h0 : 0 ≤ l) (h1 : l ≤ h) (h2 : h ≤ len) (h3 : len ≤ cap) :
    (Instr.sliceBounds isS len cap vlo vhi none).run P w = .ok (l.toNat, h.toNat, cap) w := by
  have eh : ((h.toNat : Nat) : Int) = h := by omega
  unfold Instr.sliceBounds
  rcases hhi with ⟨rfl, rfl⟩ | ⟨k, rfl⟩
  · rcases hlo with ⟨rfl, rfl⟩ | ⟨k', rfl⟩
    · simp
    · simp [run_bound h0 (show l ≤ (len : Int) from h1)]
  · rcases hlo with ⟨rfl, rfl⟩ | ⟨k', rfl⟩
    · simp [run_bound (by omega) (show h ≤ (cap : Int) by omega)]
    · simp [run_bound (by omega) (show h ≤ (cap : Int) by omega), run_bound h0 (show l ≤ ((h.toNat : Nat) : Int) by omega)]

theorem run_bounds3 {isS : Bool} {len cap : Nat} {vlo : Option Value} {l h : Int} {k k2 : IntKind}
    (hlo : (vlo = none ∧ l = 0) ∨ ∃ k, vlo = some (.int k l)) (h0 : 0 ≤ l) (h1 : l ≤ h) (h2 : h ≤ len) (h3 : len ≤ cap) :
    (Instr.sliceBounds isS len cap vlo (some (.int k h)) (some (.int k2 h))).run P w = .ok (l.toNat, h.toNat, h.toNat) w := by
  unfold Instr.sliceBounds
  rcases hlo with ⟨rfl, rfl⟩ | ⟨k', rfl⟩
  · simp [run_bound (by omega) (show h ≤ (cap : Int) by omega), run_bound (by omega) (show h ≤ ((h.toNat : Nat) : Int) by omega)]
  · simp [run_bound (by omega) (show h ≤ (cap : Int) by omega), run_bound (by omega) (show h ≤ ((h.toNat : Nat) : Int) by omega), run_bound h0 (show l ≤ ((h.toNat : Nat) : Int) by omega)]

theorem add_at (b off n : Nat) : (⟨b, off, none⟩ : Addr).add n = ⟨b, off + n, none⟩ := by
  unfold Addr.add; split <;> simp_all

/-- What a cut answers. -/
theorem cut_rep {c : Ctx} {b off cap : Nat} {full full' : Bool} {sz : Nat} {es : List AVal} {l h : Int} {m : Nat} (r : SlAt c b off cap full sz es)
    (h0 : 0 ≤ l) (h1 : l ≤ h) (h2 : h ≤ es.length) (hm : h.toNat ≤ m) (hf : full' = true → m = h.toNat) :
    Rep c (.slice (some (if m = l.toNat then ⟨b, off, none⟩ else (⟨b, off, none⟩ : Addr).add (l.toNat * cnt sz))) (h.toNat - l.toNat) (m - l.toNat)) (.sl full' sz (part l h es)) := by
  have e : h.toNat - l.toNat = (h - l).toNat := by omega
  have hlen := part_length h0 h1 h2
  split
  · rename_i hml
    have hz : (h - l).toNat = 0 := by omega
    have hp : part l h es = [] := by rw [← List.length_eq_zero_iff, hlen, hz]
    rw [hp, e, hz]
    obtain ⟨_, _, lim, f, hk, hl, _, _, _⟩ := r
    exact .sl b off (m - l.toNat) lim full' sz [] (fun _ _ => undef) (by simp) (fun _ => by simp; omega) hk (by simp; omega) (by simp) (fun i j hi => by simp at hi) (fun i j hi => by simp at hi)
  · rw [add_at, e]
    have := (r.part h0 h1 h2 (cap' := m - l.toNat) (full' := full') (by omega) (fun hh => by have := hf hh; omega)).rep
    rw [hlen] at this
    exact this

def capOf : Value → Nat | .slice _ _ c => c | _ => 0

theorem capOf_le {c : Ctx} {v : Value} {full : Bool} {sz : Nat} {es : List AVal} (r : Rep c v (.sl full sz es)) : es.length ≤ capOf v := by
  rcases r.slInv with ⟨x, rfl, rfl⟩ | ⟨b, off, cap, rfl, hat⟩
  · simp
  · exact hat.hcap
theorem capOf_full {c : Ctx} {v : Value} {full : Bool} {sz : Nat} {es : List AVal} (r : Rep c v (.sl full sz es)) (h : full = true) : capOf v = es.length := by
  rcases r.slInv with ⟨x, rfl, rfl⟩ | ⟨b, off, cap, rfl, hat⟩
  · simp [capOf]
  · exact hat.hfull h

theorem run_size0 {t : TypeId} (h : 0 < szOf P t) : (sizeOf t).run P w = .ok (szOf P t) w := by
  unfold szOf at h ⊢
  cases hi : P.info? t with
  | none => simp [hi] at h
  | some i => simp [sizeOf, typeInfo, hi]

theorem slice_run {c : Ctx} {t e : TypeId} {vx : Value} {vlo vhi vmx : Option Value} {full full' : Bool} {es : List AVal} {l h : Int} {m : Nat}
    (hu : P.underlying t = some (.slice e)) (hel : elOk P e = true) (r : Rep c vx (.sl full (shp P e) es)) (h0 : 0 ≤ l) (h1 : l ≤ h) (h2 : h ≤ es.length) (hm : h.toNat ≤ m) (hm2 : m ≤ capOf vx)
    (hrun : ∀ w, (Instr.sliceBounds true es.length (capOf vx) vlo vhi vmx).run P w = .ok (l.toNat, h.toNat, m) w) (hf : full' = true → m = h.toNat) :
    ∃ v, (∀ w, (Instr.sliceAt t vx vlo vhi vmx).run P w = .ok v w) ∧ Rep c v (.sl full' (shp P e) (part l h es)) ∧
      (∀ ob sz, m = capOf vx → h = es.length → OwnAt c ob sz vx → sz = shp P e → OwnAt c ob (shp P e) v) := by
  obtain ⟨hpos, hcnt⟩ := elOk_spec hel
  rcases r.slInv with ⟨x, rfl, rfl⟩ | ⟨b, off, cap, rfl, hat⟩
  · have l0 : l = 0 := by simp at h2; omega
    have e0 : h = 0 := by simp at h2; omega
    subst l0; subst e0
    have m0 : m = 0 := by simpa [capOf] using hm2
    subst m0
    refine ⟨.slice x 0 0, fun w => ?_, ?_, fun _ _ _ _ _ _ => by cases x <;> simp [OwnAt]⟩
    · have hrun := hrun w
      simp [Instr.sliceAt, run_underlying hu, Instr.slice, run_size0 hpos, capOf] at hrun ⊢
      simp [hrun]
    · exact .slnil _ _ _
  · refine ⟨_, fun w => ?_, cut_rep hat h0 h1 h2 hm hf, fun ob sz em eh ho hsz => ?_⟩
    · simp only [capOf] at hrun
      simp only [Instr.sliceAt, run_underlying hu, Instr.slice, Sem.run_bind, Result.andThen_ok, hrun, run_size0 hpos, hcnt]
      simp only [Sem.run_pure]
      congr 2
      split <;> rfl
    · simp only [capOf] at em
      subst em
      have e1 : h.toNat = es.length := by omega
      simp only [OwnAt] at ho ⊢
      rw [e1]
      split
      · rename_i hml
        left; omega
      · rename_i hml
        rcases ho with ho | ⟨ho1, ho2, xs, el, hg, hcs⟩
        · left; omega
        · right
          rw [add_at]
          have hlc : l.toNat * cnt (shp P e) + (es.length - l.toNat) * cnt (shp P e) = es.length * cnt (shp P e) := by
            rw [← Nat.add_mul]; congr 1; omega
          have hlc' : l.toNat * cnt (shp P e) + (m - l.toNat) * cnt (shp P e) = m * cnt (shp P e) := by
            rw [← Nat.add_mul]; congr 1; omega
          refine ⟨ho1, ?_, xs, el, hg, ?_⟩
          · simp only
            rw [ho2, hsz, Nat.add_assoc, hlc]
          · simp only
            rw [hsz] at hcs
            omega

theorem sliceK_ok {S : Sc} {t : TypeId} {vx : Value} {x : EV} {vlo vhi vmx : Option Value} {lo hi mx : Option EV} {K : EV → Tr R}
    (rx : RepE S vx x) (rlo : RepO S vlo lo) (rhi : RepO S vhi hi) (rmx : RepO S vmx mx) (h : (sliceK P t x lo hi mx K).All Q) :
    ∃ v e, (∀ w, (Instr.sliceAt t vx vlo vhi vmx).run P w = .ok v w) ∧ RepE S v e ∧ (K e).All Q := by
  unfold sliceK at h
  split at h
  · rename_i s hu
    have rs : Rep S.c vx (.str s) := rx
    cases rs
    rename_i s
    cases mx with
    | some m => exact h.elim
    | none =>
      cases vmx with
      | some _ => exact rmx.elim
      | none =>
        obtain ⟨l, hl, _, h⟩ := optInt_ok rlo h
        obtain ⟨hh, hhi, _, h⟩ := optInt_ok rhi h
        obtain ⟨hb, h⟩ := all_bif h
        simp only [all_and2, decide_eq_true_eq] at hb
        obtain ⟨b0, b1, b2⟩ := hb
        have b2' : hh ≤ s.size := by simpa using b2
        have hrun := fun w => run_bounds2 (P := P) (w := w) (isS := false) (len := s.size) (cap := s.size) (vlo := vlo) (vhi := vhi) (l := l) (h := hh)
          hl (by simpa using hhi) b0 b1 b2' (Nat.le_refl _)
        refine ⟨.string (s.extract l.toNat hh.toNat), .one (.val (.str (part l hh s.data.toList))), fun w => ?_, ?_, h⟩
        · simp [Instr.sliceAt, run_underlying hu, Instr.slice, hrun]
        · have e : (s.extract l.toNat hh.toNat).data.toList = part l hh s.data.toList := by
            simp [part, List.extract]
            congr 1
            omega
          show Rep S.c _ _
          rw [← e]
          exact .str _
  · rename_i e x hu
    have rx' : RepS S vx x := rx
    split at h
    · exact h.elim
    · exact h.elim
    · split at h
      · rename_i full sz es hA
        obtain ⟨hb, h⟩ := all_bif h
        simp only [Bool.and_eq_true] at hb
        obtain ⟨hel, hsz⟩ := hb
        obtain ⟨hpos, hcnt⟩ := elOk_spec hel
        obtain ⟨l, hl, _, h⟩ := optInt_ok rlo h
        obtain ⟨hh, hhi, hhn, h⟩ := optInt_ok rhi h
        obtain ⟨hb, h⟩ := all_bif h
        simp only [all_and2, decide_eq_true_eq] at hb
        obtain ⟨b0, b1, b2⟩ := hb
        have rA : Rep S.c vx (.sl full (shp P e) es) := (RepS.toA rx' hA).slEmpty hsz
        have hcl := capOf_le rA
        split at h
        · rename_i m _
          cases vmx with
          | none => exact rmx.elim
          | some vm =>
            obtain ⟨k, n, rfl, h⟩ := intOf_ok h
            obtain ⟨hb, h⟩ := all_bif h
            have hn : n = hh := by simpa using hb
            subst hn
            obtain rfl := repE_int rmx
            rcases hhi with ⟨rfl, _⟩ | ⟨k', rfl⟩
            · simp at hhn
            · have hrun := fun w => run_bounds3 (P := P) (w := w) (isS := true) (len := es.length) (cap := capOf vx) (k := k') (k2 := k) hl b0 b1 b2 hcl
              obtain ⟨v, e1, e2, _⟩ := slice_run hu hel rA b0 b1 b2 (Nat.le_refl _) (by omega) hrun (full' := true) (fun _ => rfl)
              exact ⟨v, _, e1, repE_val e2, h⟩
        · exact h.elim
        · cases vmx with
          | some _ => exact rmx.elim
          | none =>
            have hrun := fun w => run_bounds2 (P := P) (w := w) (isS := true) (len := es.length) (cap := capOf vx) hl hhi b0 b1 b2 hcl
            obtain ⟨v, e1, e2, _⟩ := slice_run hu hel rA b0 b1 b2 (by omega) (Nat.le_refl _) hrun (full' := false) (by simp)
            exact ⟨v, _, e1, repE_val e2, h⟩
        · cases vmx with
          | some _ => exact rmx.elim
          | none =>
            have hnone : vhi = none := hhn.2 rfl
            have heq : hh = es.length := by
              rcases hhi with ⟨_, h⟩ | ⟨k, h⟩
              · exact h
              · rw [hnone] at h; cases h
            have hrun := fun w => run_bounds2 (P := P) (w := w) (isS := true) (len := es.length) (cap := capOf vx) hl hhi b0 b1 b2 hcl
            split at h
            · obtain ⟨hz, hfin⟩ := all_bif h
              clear h
              have hzz : _ = shp P e := eq_of_beq hz
              simp only [SV.toA, Option.some.injEq, AVal.sl.injEq] at hA
              obtain ⟨rfl, rfl, rfl⟩ := hA
              have rO := rx'.2
              obtain ⟨v, e1, e2, e3⟩ := slice_run hu hel rA b0 b1 b2 (by omega) (Nat.le_refl _) hrun (full' := false) (by simp)
              exact ⟨v, _, e1, repE_own ⟨e2, e3 _ _ rfl heq rO hzz⟩, hfin⟩
            · obtain ⟨v, e1, e2, _⟩ := slice_run hu hel rA b0 b1 b2 (by omega) (Nat.le_refl _) hrun (full' := full) (fun hf => by have := capOf_full rA hf; omega)
              exact ⟨v, _, e1, repE_val e2, h⟩
      · exact h.elim
  · exact h.elim

/-! ### Looks into memory -/
theorem cellsAt {b : Nat} {xs : Array Value} {el : TypeId} {fz : Nat × Nat} (h : w.heap[b]? = some (.cells xs el fz)) {j : Nat} (hj : j < xs.size) :
    w.cell? ⟨b, j, none⟩ = some (xs.getD j undef) := by
  simp [World.cell?, h, hj]

/-- A variable of so many cells is read. -/
theorem run_loadVar {t : TypeId} {d : TypeDesc} {b off : Nat} (hu : P.underlying t = some d) (f : Nat → Value)
    (h : ∀ j, j < (bif aggT P t then szOf P t else 1) → w.cell? ⟨b, off + j, none⟩ = some (f j)) :
    (loadVar t ⟨b, off, none⟩).run P w = .ok (bif aggT P t then .agg ((List.range (szOf P t)).map f).toArray else f 0) w := by
  unfold loadVar
  simp only [Sem.run_bind, run_isAgg hu, Result.andThen_ok]
  cases ha : aggT P t
  · simp only [ha, cond_false] at h
    have := h 0 (by omega)
    simp only [Nat.add_zero] at this
    simp [this]
  · simp only [ha, cond_true] at h
    simp only [if_true, Sem.run_bind, run_size hu, Result.andThen_ok]
    rw [run_loadCells (P := P) w ⟨b, off, none⟩ (szOf P t) f (fun j hj => by rw [add_at]; exact h j hj)]
    rfl


theorem eltLoad_ok {c : Ctx} {t : TypeId} {d : TypeDesc} {e : AVal} {ag : Bool} {sz off : Nat} {v : Value} {K : AVal → Tr R} (hu : P.underlying t = some d)
    (r : Rep c v (.elt e ag sz off)) (h : (eltLoad P t e ag sz off K).All Q) : ∃ v' a', (∀ c', c.le c' → (Instr.loadAt t v).run P c'.w = .ok v' c'.w) ∧ Rep c v' a' ∧ (K a').All Q := by
  cases r with
  | elt b base _ lim _ _ _ f hk hl hs ha hn hc hr =>
  have hload : ∀ (n : Nat), off + n ≤ sz → n = (bif aggT P t then szOf P t else 1) → ∀ c' : Ctx, c.le c' → (Instr.loadAt t (.pointer (some ⟨b, base + off, none⟩))).run P c'.w =
      .ok (bif aggT P t then .agg ((List.range (szOf P t)).map fun j => f (off + j)).toArray else f (off + 0)) c'.w := by
    intro n hn' en c' hle
    obtain ⟨l', _, _, hsame⟩ := hle.κ b lim hk
    have := run_loadVar (P := P) (w := c'.w) (t := t) (b := b) (off := base + off) hu (fun j => f (off + j)) (fun j hj => by
      rw [Nat.add_assoc, hsame _ (by omega)]; exact hc (off + j) (by omega))
    simpa [Instr.loadAt, Instr.sureAddr] using this
  unfold eltLoad at h
  cases h1 : (sz == szOf P t && (ag == aggT P t) && off == 0) <;> simp only [h1, cond_true, cond_false] at h
  · cases h2 : ag <;> simp only [h2, cond_true, cond_false] at h
    · exact h.elim
    · cases h3 : aggT P t <;> simp only [h3, cond_true, cond_false] at h
      · obtain ⟨a', ha', h⟩ := all_optK h
        have hlt : off < sz := by rw [← hs]; exact (List.getElem?_eq_some_iff.1 ha').1
        refine ⟨_, _, hload 1 (by omega) (by simp [h3]), ?_, h⟩
        simp only [h3, cond_false, Nat.add_zero]
        have := hr off hlt
        simpa [ha'] using this
      · obtain ⟨hb, h⟩ := all_bif h
        have hb' : off + szOf P t ≤ e.cells.length := by simpa using hb
        refine ⟨_, _, hload (szOf P t) (by omega) (by simp [h3]), ?_, h⟩
        simp only [h3, cond_true]
        refine .agg _ _ (by simp; omega) (fun x hx => hn x (List.mem_of_mem_drop (List.mem_of_mem_take hx))) (fun j hj => ?_)
        have hj' : j < szOf P t := by simp at hj; omega
        rw [getD_range _ hj']
        have := hr (off + j) (by omega)
        simpa [List.getElem?_take, hj', List.getElem?_drop] using this
  · simp only [Bool.and_eq_true, beq_iff_eq] at h1
    obtain ⟨⟨hsz, hag⟩, rfl⟩ := h1
    cases h3 : aggT P t
    · rw [h3] at hag
      subst hag
      have he : e.cells = [e] := by cases e <;> first | rfl | simp [AVal.isAgg] at ha
      have h1' : sz = 1 := by rw [← hs, he]; rfl
      refine ⟨_, _, hload 1 (by omega) (by simp [h3]), ?_, h⟩
      have := hr 0 (by omega)
      simpa [h3, he] using this
    · rw [h3] at hag
      subst hag
      refine ⟨_, _, hload (szOf P t) (by omega) (by simp [h3]), ?_, h⟩
      cases e <;> simp [AVal.isAgg] at ha
      rename_i cs
      simp only [AVal.cells] at hs hn hr
      simp only [h3, cond_true]
      refine .agg _ _ (by simp; omega) hn (fun j hj => ?_)
      rw [getD_range _ (by omega)]
      simpa using hr j (by omega)

theorem loadAt_row {t : TypeId} {d : TypeDesc} {b off : Nat} {xs : Array Value} {el : TypeId} {fz : Nat × Nat} (hu : P.underlying t = some d) (hg : w.heap[b]? = some (.cells xs el fz))
    (hn : off + (bif aggT P t then szOf P t else 1) ≤ xs.size) :
    (Instr.loadAt t (.pointer (some ⟨b, off, none⟩))).run P w = .ok (bif aggT P t then .agg ((List.range (szOf P t)).map fun j => xs.getD (off + j) undef).toArray else xs.getD off undef) w := by
  have := run_loadVar (P := P) (w := w) (t := t) (b := b) (off := off) hu (fun j => xs.getD (off + j) undef) (fun j hj => cellsAt hg (by omega))
  simpa [Instr.loadAt, Instr.sureAddr] using this

theorem und_of_coerce {t : TypeId} {a : AVal} {K : AVal → Tr R} (h : (coerce P t a K).All Q) : ∃ d, P.underlying t = some d := by
  unfold coerce at h
  split at h <;> first | exact ⟨_, ‹_›⟩ | exact h.elim

theorem sub_aggS {S : Sc} {xs : Array Value} {l : List SV} {off n : Nat} (h : RepL S xs l) (hn : off + n ≤ l.length) :
    RepL S ((List.range n).map fun j => xs.getD (off + j) undef).toArray ((l.drop off).take n) := by
  refine ⟨by simp; omega, fun j hj => ?_⟩
  have hj' : j < n := by simp at hj; omega
  rw [getD_range _ hj', take_drop_getD _ _ _ _ _ hj']
  exact h.2 _ (by omega)

theorem getElem?_getD {α : Type} {l : List α} {i : Nat} {a d : α} (h : l[i]? = some a) : i < l.length ∧ l.getD i d = a := by
  obtain ⟨h1, h2⟩ := List.getElem?_eq_some_iff.1 h
  exact ⟨h1, by simp [h1, h2]⟩

theorem heap_cell {H : Heap} {id off : Nat} {hc : HCell} (h : H.cell? id off = some hc) : ∃ cs, H.objs[id]? = some (.cells cs) ∧ cs[off]? = some hc := by
  unfold Heap.cell? at h
  split at h
  · rename_i cs hcs; exact ⟨cs, hcs, h⟩
  · simp at h

theorem RepH.toA {c : Ctx} {ob : Option Nat} {v : Value} {hc : HCell} (r : RepH c ob v hc) : Rep c v hc.toA ∧ hc.toA.isAgg = false := by
  cases hc with
  | val a => exact r
  | own sz es => exact ⟨r.1, rfl⟩

theorem loadK_ok {base : Bs} {S : Sc} {fr : Fr} {a : Act} {t : TypeId} {va : Value} {x : EV} {K : EV → Tr R} (r : Rel base S fr a w) (rx : RepE S va x)
    (h : (loadK P t x fr S.H K).All Q) : ∃ v e, (Instr.loadAt t va).run P w = .ok v w ∧ RepE S v e ∧ (K e).All Q := by
  unfold loadK at h
  split at h
  · rename_i d off
    obtain ⟨_, rfl⟩ : _ ∧ va = _ := rx
    split at h
    · rename_i cs hb
      obtain ⟨xs, el, hg, hr⟩ := r.box d _ hb
      rw [r.w] at hg
      cases ha : aggT P t <;> simp only [ha, cond_true, cond_false] at h
      · obtain ⟨v, hv, h⟩ := all_optK h
        obtain ⟨hlt, hgd⟩ := getElem?_getD (d := .undef) hv
        obtain ⟨du, hu⟩ := und_of_coerce h
        have hrr := (hr.2 off hlt).1
        rw [hgd] at hrr
        obtain ⟨a', ra, _, _, h⟩ := coerce_ok hrr h
        refine ⟨_, _, loadAt_row hu hg (by simp [ha]; rw [hr.1]; omega), ?_, h⟩
        simpa [ha] using repE_val ra
      · obtain ⟨hle, h⟩ := all_bif h
        have hle' : off + szOf P t ≤ cs.length := by simpa using hle
        obtain ⟨du, hu⟩ := aggT_und ha
        refine ⟨_, _, loadAt_row hu hg (by simp [ha]; rw [hr.1]; omega), ?_, h⟩
        simp only [ha, cond_true]
        exact repE_val (sub_agg hr hle')
    · rename_i cs hb
      obtain ⟨xs, el, hg, hr⟩ := r.box d _ hb
      rw [r.w] at hg
      cases ha : aggT P t <;> simp only [ha, cond_true, cond_false] at h
      · obtain ⟨hu, h⟩ := all_bif h
        obtain ⟨du, hu⟩ := Option.isSome_iff_exists.1 hu
        obtain ⟨s, hv, h⟩ := all_optK h
        obtain ⟨hlt, hgd⟩ := getElem?_getD (d := .unk) hv
        have hrr := (hr.2 off hlt).1
        rw [hgd] at hrr
        obtain ⟨s', rs, h⟩ := coerceS_ok hrr h
        refine ⟨_, _, loadAt_row hu hg (by simp [ha]; rw [hr.1]; omega), ?_, h⟩
        simpa [ha] using (show RepE S _ (.one s') from rs)
      · obtain ⟨hle, h⟩ := all_bif h
        have hle' : off + szOf P t ≤ cs.length := by simpa using hle
        obtain ⟨du, hu⟩ := aggT_und ha
        refine ⟨_, _, loadAt_row hu hg (by simp [ha]; rw [hr.1]; omega), ?_, h⟩
        simp only [ha, cond_true]
        exact ⟨_, rfl, sub_aggS hr hle'⟩
    · exact h.elim
    · exact h.elim
  · rename_i id off
    have rp : Rep S.c va (.obj id off) := rx
    cases rp with
    | obj _ _ hid =>
    cases ha : aggT P t <;> simp only [ha, cond_true, cond_false] at h
    · obtain ⟨hc, hv, h⟩ := all_optK h
      obtain ⟨cs, ho, hcs⟩ := heap_cell hv
      obtain ⟨xs, el, hg, hsz, hr⟩ := r.heap.obj id _ ho
      have hg0 := hg
      rw [r.w] at hg
      obtain ⟨hlt, hgd⟩ := getElem?_getD (d := .val .undef) hcs
      have hrr := hr off hlt
      rw [hgd] at hrr
      have hA := hrr.toA
      split at h
      · rename_i e hu
        obtain ⟨hb, h⟩ := all_bif h
        refine ⟨_, _, loadAt_row hu hg (by simp [ha]; omega), ?_, h⟩
        simp only [ha, cond_false]
        refine ⟨(hA.1.isSl hb).weakSl, hid, fun hc' _ => ?_⟩
        exact cellsAt (w := S.c.w) hg0 (by omega)
      · obtain ⟨du, hu⟩ := und_of_coerce h
        obtain ⟨a', ra, _, _, h⟩ := coerce_ok hA.1 h
        refine ⟨_, _, loadAt_row hu hg (by simp [ha]; omega), ?_, h⟩
        simpa [ha] using repE_val ra
    · obtain ⟨cs, hcs, h⟩ := all_optK h
      obtain ⟨du, hu⟩ := aggT_und ha
      unfold Heap.cells? at hcs
      split at hcs
      · rename_i hs ho
        obtain ⟨xs, el, hg, hsz, hr⟩ := r.heap.obj id _ ho
        rw [r.w] at hg
        cases hle : decide (off + szOf P t ≤ hs.length) <;> simp only [hle, cond_true, cond_false, Option.some.injEq, reduceCtorEq] at hcs
        have hle' : off + szOf P t ≤ hs.length := by simpa using hle
        subst hcs
        refine ⟨_, _, loadAt_row hu hg (by simp [ha]; omega), ?_, h⟩
        simp only [ha, cond_true]
        have hRA : RepA S.c xs (hs.map HCell.toA) := ⟨by simpa using hsz, fun j hj => by
          have hj' : j < hs.length := by simpa using hj
          have := (hr j hj').toA
          simpa [hj'] using this⟩
        have := sub_agg (off := off) (n := szOf P t) hRA (by simpa using hle')
        rw [← List.map_drop, ← List.map_take] at this
        exact repE_val this
      · simp at hcs
  · rename_i e ag sz off
    cases hu : P.underlying t with
    | none =>
      exfalso
      unfold eltLoad at h
      have ha : aggT P t = false := by simp [aggT, hu]
      simp only [ha] at h
      cases h1 : (sz == szOf P t && (ag == false) && off == 0) <;> simp only [h1, cond_true, cond_false] at h
      · cases h2 : ag <;> simp only [h2, cond_true, cond_false] at h
        · exact h.elim
        · obtain ⟨_, _, h⟩ := all_optK h
          simp [coerce, hu, Tr.All] at h
      · simp [coerce, hu, Tr.All] at h
    | some d =>
      obtain ⟨v', a', h1, h2, h⟩ := eltLoad_ok hu rx h
      have h1 := h1 S.c (Ctx.le_refl _)
      rw [r.w] at h1
      obtain ⟨a'', h3, _, _, h⟩ := coerce_ok h2 h
      exact ⟨v', _, h1, repE_val h3, h⟩
  · exact h.elim
end Go.Weave
end

section
/- The evaluator's other pure operations do what the machine's do. -/
namespace Go.Weave
variable {P : Program} {w : World} {R : Type} {Q : R → Prop}

theorem repE_loc {S : Sc} {v : Value} {d off : Nat} (h : (look d S.bx).isSome = true ∧ v = .pointer (some ⟨S.lam d, off, none⟩)) : RepE S v (.one (.loc d off)) := h

theorem Rep.eltOff {c : Ctx} {e : AVal} {ag : Bool} {sz off : Nat} {v : Value} (r : Rep c v (.elt e ag sz off)) :
    ∃ b base, v = .pointer (some ⟨b, base + off, none⟩) ∧ ∀ off', Rep c (.pointer (some ⟨b, base + off', none⟩)) (.elt e ag sz off') := by
  cases r with
  | elt b base _ lim _ _ _ f hk hl hs ha hn hc hr => exact ⟨b, base, rfl, fun off' => .elt b base off' lim e ag sz f hk hl hs ha hn hc hr⟩

theorem Rep.strInv {c : Ctx} {v : Value} {s : List UInt8} (r : Rep c v (.str s)) : ∃ b : ByteArray, v = .string b ∧ s = b.data.toList := by
  cases r; exact ⟨_, rfl, rfl⟩

theorem fieldAddrK_ok {S : Sc} {s : TypeId} {vx : Value} {x : EV} {f : Nat} {K : EV → Tr R} (rx : RepE S vx x) (h : (fieldAddrK P s x f K).All Q) :
    ∃ v e, (∀ w, (Instr.fieldAt s vx f).run P w = .ok v w) ∧ RepE S v e ∧ (K e).All Q := by
  unfold fieldAddrK at h
  split at h
  · rename_i fs hu
    split at h
    · rename_i fd hf
      cases hz : (szOf P fd.type == 0) <;> simp only [hz, cond_true, cond_false] at h
      · have hz' : 0 < szOf P fd.type := by have : szOf P fd.type ≠ 0 := by simpa using hz
                                            omega
        have hrun : ∀ {w} b o, (Instr.fieldAt s (.pointer (some ⟨b, o, none⟩)) f).run P w = .ok (.pointer (some ⟨b, o + fd.offset, none⟩)) w := fun b o => by
          have hne : ¬ szOf P fd.type = 0 := by omega
          simp [Instr.fieldAt, run_underlying hu, hf, Instr.sureAddr, fieldPlace, run_size0 hz', hne, add_at]
        split at h
        · rename_i d off
          obtain ⟨h1, rfl⟩ : _ ∧ vx = _ := rx
          exact ⟨_, _, fun _ => hrun _ _, repE_loc ⟨h1, rfl⟩, h⟩
        · rename_i id off
          have rp : Rep S.c vx (.obj id off) := rx
          cases rp with
          | obj _ _ hid => exact ⟨_, _, fun _ => hrun _ _, repE_val (.obj id _ hid), h⟩
        · rename_i e ag sz off
          obtain ⟨b, base, rfl, hh⟩ := Rep.eltOff (show Rep S.c vx _ from rx)
          refine ⟨_, _, fun _ => hrun _ _, repE_val ?_, h⟩
          rw [Nat.add_assoc]
          exact hh _
        · exact h.elim
      · exact h.elim
    · exact h.elim
  · exact h.elim

theorem indexAddrK_ok {S : Sc} {t : TypeId} {vx vi : Value} {x i : EV} {K : EV → Tr R} (rx : RepE S vx x) (ri : RepE S vi i) (h : (indexAddrK P t x i K).All Q) :
    ∃ v e, (∀ w, (Instr.indexAt t vx vi).run P w = .ok v w) ∧ RepE S v e ∧ (K e).All Q := by
  unfold indexAddrK at h
  obtain ⟨k, n, rfl, h⟩ := intOf_ok h
  obtain rfl := repE_int ri
  split at h
  · rename_i len e hu
    obtain ⟨hb, h⟩ := all_bif h
    simp only [Bool.and_eq_true, decide_eq_true_eq] at hb
    obtain ⟨hel, h0, h1⟩ := hb
    obtain ⟨hpos, _⟩ := elOk_spec hel
    have hrun : ∀ {w} b o, (Instr.indexAt t (.pointer (some ⟨b, o, none⟩)) (.int k n)).run P w = .ok (.pointer (some ⟨b, o + n.toNat * szOf P e, none⟩)) w := fun b o => by
      simp [Instr.indexAt, asIntOf, run_underlying hu, Instr.sureAddr, h0, h1, run_size0 hpos, add_at]
    split at h
    · rename_i d off
      obtain ⟨h1, rfl⟩ : _ ∧ vx = _ := rx
      exact ⟨_, _, fun _ => hrun _ _, repE_loc ⟨h1, rfl⟩, h⟩
    · rename_i id off _ _
      have rp : Rep S.c vx (.obj id off) := rx
      cases rp with
      | obj _ _ hid => exact ⟨_, _, fun _ => hrun _ _, repE_val (.obj id _ hid), h⟩
    · rename_i e ag sz off _ _
      obtain ⟨b, base, rfl, hh⟩ := Rep.eltOff (show Rep S.c vx _ from rx)
      refine ⟨_, _, fun _ => hrun _ _, repE_val ?_, h⟩
      rw [Nat.add_assoc]
      exact hh _
    · exact h.elim
  · rename_i e hu
    split at h
    · rename_i full sz es hA
      obtain ⟨hb, h⟩ := all_bif h
      simp only [Bool.and_eq_true, decide_eq_true_eq] at hb
      obtain ⟨⟨hel, hsz⟩, h0, h1⟩ := hb
      obtain ⟨hpos, hcnt⟩ := elOk_spec hel
      have rA : Rep S.c vx (.sl full (shp P e) es) := (RepE.toA rx hA).slEmpty hsz
      rcases rA.slInv with ⟨_, rfl, rfl⟩ | ⟨b, off, cap, rfl, hat⟩
      · simp at h1; omega
      · obtain ⟨_, _, lim, f, hk, hl, he, hc, hr⟩ := hat
        have hlt : n.toNat < es.length := by omega
        have hel' := he (es.getD n.toNat .undef) (by simp [hlt])
        refine ⟨.pointer (some ⟨b, off + n.toNat * szOf P e, none⟩), _, fun w => ?_, repE_val ?_, h⟩
        · have : n < (es.length : Int) := h1
          simp [Instr.indexAt, asIntOf, run_underlying hu, h0, this, run_size0 hpos, add_at]
        · rw [hcnt] at hc hr hl
          have hmul := cell_lt (n := es.length) (k := szOf P e) (j := 0) hlt hpos
          have hle : (n.toNat + 1) * szOf P e ≤ es.length * szOf P e := Nat.mul_le_mul_right _ hlt
          rw [Nat.succ_mul] at hle
          have := Rep.elt (c := S.c) b (off + n.toNat * szOf P e) 0 lim (es.getD n.toNat .undef) (aggT P e) (szOf P e) (fun j => f n.toNat j) hk (by omega)
            (by rw [hel'.2.1, hcnt]) (by rw [hel'.1, shp_agg]) hel'.2.2 (fun j hj => hc _ j hlt hj) (fun j hj => hr _ j hlt hj)
          simpa using this
    · exact h.elim
  · exact h.elim


theorem RepA.of_agg {c : Ctx} {v : Value} {cs : List AVal} (r : Rep c v (.agg cs)) : ∃ xs, v = .agg xs ∧ RepA c xs cs := by
  cases r with
  | agg xs _ hs hn hr => exact ⟨xs, rfl, hs, fun j hj => ⟨hr j hj, hn _ (by simp [hj])⟩⟩

theorem isAgg_spec {a : AVal} (h : a.isAgg = true) : a = .agg a.cells := by cases a <;> simp [AVal.isAgg] at h; rfl

theorem partK_ok {S : Sc} {t : TypeId} {xs : Array Value} {cs : List AVal} {off : Nat} {K : EV → Tr R} (r : RepA S.c xs cs) (h : (partK P t cs off K).All Q) :
    ∃ v e, (∀ w, (Go.part t xs off).run P w = .ok v w) ∧ RepE S v e ∧ (K e).All Q := by
  unfold partK at h
  cases ha : aggT P t <;> simp only [ha, cond_true, cond_false] at h
  · obtain ⟨v, hv, h⟩ := all_optK h
    obtain ⟨hlt, hgd⟩ := getElem?_getD (d := .undef) hv
    obtain ⟨d, hu⟩ := und_of_coerce h
    obtain ⟨u, h1, h2⟩ := part_run (off := off) hu r (by simp [ha]; omega)
    rw [ha, cond_false, hgd] at h2
    obtain ⟨a', h3, _, _, h⟩ := coerce_ok h2 h
    exact ⟨u, _, h1, repE_val h3, h⟩
  · obtain ⟨hb, h⟩ := all_bif h
    obtain ⟨d, hu⟩ := aggT_und ha
    obtain ⟨u, h1, h2⟩ := part_run (off := off) hu r (by simpa [ha] using hb)
    rw [ha, cond_true] at h2
    exact ⟨u, _, h1, repE_val h2, h⟩

theorem partK_und {t : TypeId} {cs : List AVal} {off : Nat} {K : EV → Tr R} (h : (partK P t cs off K).All Q) : ∃ d, P.underlying t = some d := by
  unfold partK at h
  cases ha : aggT P t <;> simp only [ha, cond_true, cond_false] at h
  · obtain ⟨v, hv, h⟩ := all_optK h
    exact und_of_coerce h
  · exact aggT_und ha

theorem part_runS {S : Sc} {t : TypeId} {d : TypeDesc} {xs : Array Value} {l : List SV} {off : Nat} (hu : P.underlying t = some d) (r : RepL S xs l)
    (hn : off + (bif aggT P t then szOf P t else 1) ≤ l.length) :
    ∃ v, (∀ w, (Go.part t xs off).run P w = .ok v w) ∧ (bif aggT P t then RepC S v (.agg ((l.drop off).take (szOf P t))) else RepS S v (l.getD off .unk)) := by
  unfold Go.part
  simp only [Sem.run_bind, run_isAgg hu, Result.andThen_ok]
  cases ha : aggT P t <;> simp only [ha, cond_true, cond_false] at hn ⊢
  · have hlt : off < xs.size := by rw [r.1]; omega
    refine ⟨xs.getD off undef, fun w => ?_, (r.2 off (by omega)).1⟩
    simp [hlt]
  · refine ⟨_, fun w => by simp only [if_true, Sem.run_bind, run_size hu, Result.andThen_ok]; rfl, ?_⟩
    have := sub_aggS (n := szOf P t) r hn
    have e : xs.extract off (off + szOf P t) = ((List.range (szOf P t)).map fun j => xs.getD (off + j) undef).toArray := by
      apply Array.ext'
      simp only [Array.toList_extract, List.extract]
      apply List.ext_getElem?
      intro j
      by_cases hj : j < szOf P t
      · have h1 : off + j < xs.size := by rw [r.1]; omega
        simp [hj, List.getElem?_drop, h1]
      · simp [hj]; omega
    rw [e]
    exact ⟨_, rfl, this⟩

theorem fieldK_ok {S : Sc} {t : TypeId} {vx : Value} {x : EV} {f : Nat} {K : EV → Tr R} (rx : RepE S vx x) (h : (fieldK P t x f K).All Q) :
    ∃ v e, (∀ w, (Instr.field t vx f).run P w = .ok v w) ∧ RepE S v e ∧ (K e).All Q := by
  unfold fieldK at h
  split at h
  · rename_i fs hu
    split at h
    · rename_i fd hf
      have hrun : ∀ w xs, (Instr.field t (.agg xs) f).run P w = (Go.part fd.type xs fd.offset).run P w := fun w xs => by
        simp [Instr.field, run_underlying hu, hf, asAgg]
      split at h
      · rename_i l
        obtain ⟨xs, rfl, hl⟩ := rx
        cases ha : aggT P fd.type <;> simp only [ha, cond_true, cond_false] at h
        · obtain ⟨hu', h⟩ := all_bif h
          obtain ⟨d, hd⟩ := Option.isSome_iff_exists.1 hu'
          obtain ⟨s, hs, h⟩ := all_optK h
          obtain ⟨hlt, hgd⟩ := getElem?_getD (d := .unk) hs
          obtain ⟨u, h1, h2⟩ := part_runS (off := fd.offset) hd hl (by simp [ha]; omega)
          rw [ha, cond_false, hgd] at h2
          obtain ⟨s', h3, h⟩ := coerceS_ok h2 h
          exact ⟨u, _, fun w => by rw [hrun]; exact h1 w, show RepE S u (.one s') from h3, h⟩
        · obtain ⟨hb, h⟩ := all_bif h
          obtain ⟨d, hd⟩ := aggT_und ha
          obtain ⟨u, h1, h2⟩ := part_runS (off := fd.offset) hd hl (by simpa [ha] using hb)
          rw [ha, cond_true] at h2
          exact ⟨u, _, fun w => by rw [hrun]; exact h1 w, show RepE S u (.agg _) from h2, h⟩
      · obtain ⟨v, hv, h⟩ := all_optK h
        obtain ⟨hb, h⟩ := all_bif h
        have rv := RepE.toA rx hv
        rw [isAgg_spec hb] at rv
        obtain ⟨xs, rfl, rA⟩ := RepA.of_agg rv
        obtain ⟨u, e, h1, h2, h⟩ := partK_ok rA h
        exact ⟨u, e, fun w => by rw [hrun]; exact h1 w, h2, h⟩
    · exact h.elim
  · exact h.elim

theorem indexK_ok {S : Sc} {t : TypeId} {vx vi : Value} {x i : EV} {K : EV → Tr R} (rx : RepE S vx x) (ri : RepE S vi i) (h : (indexK P t x i K).All Q) :
    ∃ v e, (∀ w, (Instr.index t vx vi).run P w = .ok v w) ∧ RepE S v e ∧ (K e).All Q := by
  unfold indexK at h
  obtain ⟨k, n, rfl, h⟩ := intOf_ok h
  obtain rfl := repE_int ri
  split at h
  · rename_i len e hu _
    obtain ⟨v, hv, h⟩ := all_optK h
    obtain ⟨hb, h⟩ := all_bif h
    simp only [Bool.and_eq_true, decide_eq_true_eq] at hb
    obtain ⟨hag, h0, h1⟩ := hb
    have rv := RepE.toA rx hv
    rw [isAgg_spec hag] at rv
    obtain ⟨xs, rfl, rA⟩ := RepA.of_agg rv
    obtain ⟨d, hd⟩ := partK_und h
    obtain ⟨u, e', h3, h2, h⟩ := partK_ok rA h
    refine ⟨u, e', fun w => ?_, h2, h⟩
    simp [Instr.index, asIntOf, run_underlying hu, h0, h1, run_size hd, h3]
  · rename_i hu _
    obtain ⟨b, rfl, rfl⟩ := Rep.strInv (show Rep S.c vx (.str _) from rx)
    obtain ⟨hb, h⟩ := all_bif h
    simp only [Bool.and_eq_true, decide_eq_true_eq] at hb
    obtain ⟨h0, h1⟩ := hb
    have hlt : n.toNat < b.size := by simp at h1; omega
    have hlt' : n.toNat < b.data.toList.length := by simpa using hlt
    refine ⟨_, _, fun w => ?_, repE_val (.int _ _), h⟩
    have e : b[n.toNat]? = some (b.data.toList.getD n.toNat 0) := by
      simp [hlt]
      rfl
    simp [Instr.index, asIntOf, run_underlying hu, h0, e]
  · exact h.elim

theorem lenK_ok {base : Bs} {S : Sc} {fr : Fr} {a : Act} {t ty : TypeId} {ts : List TypeId} {vx : Value} {x : EV} {vs : List Value} {K : EV → Tr R} (r : Rel base S fr a w) (rx : RepE S vx x)
    (h : (lenK P t x S.H K).All Q) : ∃ v e, (Builtin.len_ (t :: ts).toArray ty (vx :: vs).toArray).run P w = .ok v w ∧ RepE S v e ∧ (K e).All Q := by
  unfold lenK at h
  split at h
  · rename_i hu
    split at h
    · obtain ⟨b, rfl, rfl⟩ := Rep.strInv (show Rep S.c vx (.str _) from rx)
      refine ⟨_, _, ?_, repE_val (.int .i64 (b.data.toList.length : Int)), h⟩
      simp [Builtin.len_, run_underlying hu, goInt]
    · exact h.elim
  · rename_i e hu
    split at h
    · rename_i full sz es hA
      have rA := RepE.toA rx hA
      refine ⟨_, _, ?_, repE_val (.int .i64 (es.length : Int)), h⟩
      rcases rA.slInv with ⟨_, rfl, rfl⟩ | ⟨b, off, cap, rfl, hat⟩
      · simp [Builtin.len_, run_underlying hu, goInt]
      · simp [Builtin.len_, run_underlying hu, goInt]
    · exact h.elim
  · rename_i n e hu
    exact ⟨_, _, by simp [Builtin.len_, run_underlying hu, goInt], repE_val (.int .i64 (n : Int)), h⟩
  · rename_i k e hu
    obtain ⟨m, hm, h⟩ := all_optK h
    have rm := RepE.toA rx hm
    split at h
    · cases rm
      exact ⟨_, _, by simp [Builtin.len_, run_underlying hu, goInt], repE_val (.int .i64 0), h⟩
    · unfold mapK at h
      obtain ⟨hb, h⟩ := all_bif h
      rw [isMap_spec hb] at rm
      split at h
      · rename_i kt es c ho
        cases rm with
        | map _ hid =>
        obtain ⟨ents, hg, hsz, _⟩ := r.heap.obj _ _ ho
        rw [r.w] at hg
        refine ⟨_, _, ?_, repE_val (.int .i64 (es.length : Int)), h⟩
        simp [Builtin.len_, run_underlying hu, goInt, getObj, Sem.run, hg, hsz]
      · exact h.elim
  · exact h.elim

theorem minFrom_ok {S : Sc} {big : Bool} {k : IntKind} {K : EV → Tr R} : ∀ (xs : List EV) (vs : List Value) (n : Int), vs.length = xs.length → (∀ j, j < xs.length → RepE S (vs.getD j undef) (xs.getD j (.one .unk))) →
    (minFrom big k n xs K).All Q → ∃ v e, (∀ w, (vs.foldlM (bif big then Builtin.max2 else Builtin.min2) (.int k n)).run P w = .ok v w) ∧ RepE S v e ∧ (K e).All Q
  | [], vs, n, hl, hr, h => by
    have : vs = [] := by simpa using hl
    subst this
    exact ⟨_, _, fun _ => rfl, repE_val (.int k n), h⟩
  | x :: xs, [], n, hl, hr, h => by simp at hl
  | x :: xs, v :: vs, n, hl, hr, h => by
    unfold minFrom at h
    split at h
    · rename_i he; simp at he
    · rename_i k' b r he
      simp only [List.cons.injEq] at he
      obtain ⟨rfl, rfl⟩ := he
      have h0 := hr 0 (by simp)
      simp only [List.getD_cons_zero] at h0
      obtain rfl := repE_int h0
      obtain ⟨u, e, h1, h2, h3⟩ := minFrom_ok xs vs _ (by simpa using hl) (fun j hj => by simpa using hr (j + 1) (by simpa using hj)) h
      refine ⟨u, e, fun w => ?_, h2, h3⟩
      have h1 := h1 w
      simp only [List.foldlM_cons, Sem.run_bind]
      cases big
      · simp only [cond_false] at h1 ⊢
        simpa [Builtin.min2] using h1
      · simp only [cond_true] at h1 ⊢
        simpa [Builtin.max2] using h1
    · exact h.elim

theorem minK_ok {S : Sc} {big : Bool} {ts : Array TypeId} {ty : TypeId} {xs : List EV} {vs : List Value} {K : EV → Tr R} (hl : vs.length = xs.length)
    (hr : ∀ j, j < xs.length → RepE S (vs.getD j undef) (xs.getD j (.one .unk))) (h : (minK big xs K).All Q) :
    ∃ v e, (∀ w, ((bif big then Builtin.max_ ts ty vs.toArray else Builtin.min_ ts ty vs.toArray) : Sem Value).run P w = .ok v w) ∧ RepE S v e ∧ (K e).All Q := by
  unfold minK at h
  split at h
  · rename_i k a r
    cases vs with
    | nil => simp at hl
    | cons v vs =>
      have h0 := hr 0 (by simp)
      simp only [List.getD_cons_zero] at h0
      obtain rfl := repE_int h0
      obtain ⟨u, e, h1, h2, h3⟩ := minFrom_ok (P := P) r vs a (by simpa using hl) (fun j hj => by simpa using hr (j + 1) (by simpa using hj)) h
      refine ⟨u, e, fun w => ?_, h2, h3⟩
      have h1 := h1 w
      cases big
      · simpa [Builtin.min_] using h1
      · simpa [Builtin.max_] using h1
  · exact h.elim

/-! ### Literals -/
theorem Rep.cells {c : Ctx} {v : Value} {a : AVal} (r : Rep c v a) : RepA c v.cells a.cells := by
  cases h : a.isAgg
  · have hv := r.cellv h
    have e1 : a.cells = [a] := by cases a <;> first | rfl | simp [AVal.isAgg] at h
    have e2 : v.cells = #[v] := by cases v <;> first | rfl | exact absurd hv (by simp [Value.oneCell'])
    rw [e1, e2]
    refine ⟨rfl, fun j hj => ?_⟩
    have : j = 0 := Nat.lt_one_iff.1 hj
    subst this
    exact ⟨r, h⟩
  · have e := isAgg_spec h
    rw [e] at r
    obtain ⟨xs, rfl, rA⟩ := RepA.of_agg r
    exact rA

theorem RepS.one {S : Sc} {v : Value} {s : SV} (r : RepS S v s) (hu : s ≠ .unk) (ha : ∀ l, s ≠ .val (.agg l)) : Cellv v := by
  cases s with
  | unk => exact absurd rfl hu
  | val a =>
    refine Rep.cellv r ?_
    cases a <;> first | rfl | exact absurd rfl (ha _)
  | own g sz es => exact Rep.cellv r.1 rfl
  | bor id off sz es => exact Rep.cellv r.1 rfl
  | loc d off => obtain ⟨_, rfl⟩ := r; rfl
  | lsl d => obtain ⟨_, rfl⟩ := r; rfl

theorem RepA.toL {S : Sc} {xs : Array Value} {l : List AVal} (r : RepA S.c xs l) : RepL S xs (l.map .val) :=
  ⟨by simpa using r.1, fun j hj => by
    have hj' : j < l.length := by simpa using hj
    have h1 := r.2 j hj'
    have e : (l.map SV.val).getD j .unk = .val (l.getD j .undef) := by simp [hj']
    rw [e]
    exact ⟨h1.1, Rep.cellv h1.1 h1.2⟩⟩

theorem RepC.cellsS {S : Sc} {v : Value} {c : CV} (r : RepC S v c) (hu : c ≠ .one .unk) : RepL S v.cells c.cellsS := by
  cases c with
  | agg l => obtain ⟨xs, rfl, h⟩ := r; exact h
  | one s =>
    have hone : (∀ l, s ≠ .val (.agg l)) → RepL S v.cells [s] := fun ha => by
      have hv : Cellv v := RepS.one r (fun e => hu (by rw [e])) ha
      have e2 : v.cells = #[v] := by cases v <;> first | rfl | exact absurd hv (by simp [Value.oneCell'])
      rw [e2]
      refine ⟨rfl, fun j hj => ?_⟩
      have : j = 0 := Nat.lt_one_iff.1 hj
      subst this
      exact ⟨r, hv⟩
    cases s with
    | unk => exact absurd rfl hu
    | val a =>
      cases a with
      | agg l => exact RepA.toL (Rep.cells (show Rep S.c v (.agg l) from r))
      | _ => exact hone (by simp)
    | _ => exact hone (by simp)

theorem placeOf_ok {t : TypeId} {place : Nat → Option (Nat × Nat)} (h : placeOf P t = some place) :
    (∃ fs, P.underlying t = some (.struct fs) ∧ (∀ f ∈ fs.toList, (P.info? f.type).isSome = true) ∧ place = fun i => (fs[i]?).map fun f => (f.offset, szOf P f.type)) ∨
    (∃ n e, P.underlying t = some (.array n e) ∧ (P.info? e).isSome = true ∧ place = fun i => some (i * szOf P e, szOf P e)) := by
  unfold placeOf at h
  split at h
  · rename_i fs hu
    cases hb : fs.toList.all (fun f => (P.info? f.type).isSome) <;> simp only [hb, cond_true, cond_false, Option.some.injEq, reduceCtorEq] at h
    exact .inl ⟨fs, hu, fun f hf => List.all_eq_true.1 hb f hf, h.symm⟩
  · rename_i n e hu
    cases hb : (P.info? e).isSome <;> simp only [hb, cond_true, cond_false, Option.some.injEq, reduceCtorEq] at h
    exact .inr ⟨n, e, hu, hb, h.symm⟩
  · simp at h
end Go.Weave
end

section
/- The evaluator's scene outlasts the machine's steps in memory. -/
namespace Go.Weave
variable {P : Program} {w : World} {R : Type} {Q : R → Prop}

def Sc.withC (S : Sc) (c : Ctx) : Sc := { S with c := c }

/-- Which blocks the scene leans on, cell by cell. -/
def Leans (S : Sc) (fr : Fr) (b : Nat) : Prop :=
  (∃ id, id < S.c.n ∧ S.c.ι id = b) ∨ (∃ o, S.β o = some b) ∨ ∃ d x, look d fr.boxes = some x ∧ S.lam d = b

theorem cell_of_heap {w w' : World} {b o : Nat} (h : w'.heap[b]? = w.heap[b]?) : w'.cell? ⟨b, o, none⟩ = w.cell? ⟨b, o, none⟩ := by
  simp [World.cell?, h]

theorem lt_of_heap {w : World} {b : Nat} {o : Go.Obj} (h : w.heap[b]? = some o) : b < w.heap.size := (Array.getElem?_eq_some_iff.1 h).1

theorem HRel.lt {c : Ctx} {β : Owner → Option Nat} {H : Heap} (h : HRel c β H) {id : Nat} (hid : id < c.n) : c.ι id < c.w.heap.size := by
  have hid' : id < H.objs.length := by rw [← h.n]; exact hid
  have := h.obj id _ (List.getElem?_eq_getElem hid')
  unfold ObjOK at this
  split at this
  · obtain ⟨xs, el, hg, _⟩ := this; exact lt_of_heap hg
  · obtain ⟨xs, hg, _⟩ := this; exact lt_of_heap hg

theorem Rel.boxlt {base : Bs} {S : Sc} {fr : Fr} {a : Act} (r : Rel base S fr a w) {d : Nat} {x : Box} (h : look d fr.boxes = some x) : S.lam d < S.c.w.heap.size := by
  have := r.box d x h
  unfold BoxOK at this
  split at this
  · obtain ⟨xs, el, hg, _⟩ := this; exact lt_of_heap hg
  · obtain ⟨xs, el, hg, _⟩ := this; exact lt_of_heap hg
  · obtain ⟨xs, el, hg, _⟩ := this; exact lt_of_heap hg

theorem Rel.leanslt {base : Bs} {S : Sc} {fr : Fr} {a : Act} (r : Rel base S fr a w) {b : Nat} (h : Leans S fr b) : b < S.c.w.heap.size := by
  rcases h with ⟨id, hid, rfl⟩ | ⟨o, ho⟩ | ⟨d, x, hx, rfl⟩
  · exact r.heap.lt hid
  · obtain ⟨xs, el, hg⟩ := r.own.blk o b ho; exact lt_of_heap hg
  · exact r.boxlt hx

theorem OwnAt.move {c c' : Ctx} {ob : Option Nat} {sz : Nat} {v : Value} (h : OwnAt c ob sz v) (hk : ∀ b, ob = some b → c'.κ b = c.κ b ∧ c'.w.heap[b]? = c.w.heap[b]?) : OwnAt c' ob sz v := by
  unfold OwnAt at *
  split
  · rename_i a len cap
    simp only at h
    rcases h with h | ⟨h1, h2, xs, el, h3, h4⟩
    · exact .inl h
    · exact .inr ⟨h1, by rw [(hk _ h1).1]; exact h2, xs, el, by rw [(hk _ h1).2]; exact h3, h4⟩
  · trivial

theorem RepS.move {S : Sc} {c' : Ctx} (hle : S.c.le c') (hk : ∀ o b, S.β o = some b → c'.κ b = S.c.κ b ∧ c'.w.heap[b]? = S.c.w.heap[b]?) (hc : ∀ id o, id < S.c.n → c'.w.cell? ⟨S.c.ι id, o, none⟩ = S.c.w.cell? ⟨S.c.ι id, o, none⟩)
    {v : Value} {s : SV} (h : RepS S v s) : RepS (S.withC c') v s := by
  cases s with
  | unk => trivial
  | val a => exact Rep.mono hle h
  | own g sz es => exact ⟨Rep.mono hle h.1, h.2.move (hk _)⟩
  | bor id off sz es =>
    refine ⟨Rep.mono hle h.1, Nat.lt_of_lt_of_le h.2.1 hle.n, fun x hx => ?_⟩
    simp only [Sc.withC] at hx ⊢
    rw [hle.ι id h.2.1, hc id off h.2.1]
    exact h.2.2 x hx
  | loc d off => exact h
  | lsl d => exact h

theorem RepC.map {S S' : Sc} (hm : ∀ v s, RepS S v s → RepS S' v s) {v : Value} {c : CV} (h : RepC S v c) : RepC S' v c := by
  cases c with
  | one s => exact hm _ _ h
  | agg l =>
    obtain ⟨xs, rfl, hl, hr⟩ := h
    exact ⟨xs, rfl, hl, fun j hj => ⟨hm _ _ (hr j hj).1, (hr j hj).2⟩⟩

theorem RepE.map {S S' : Sc} (hm : ∀ v s, RepS S v s → RepS S' v s) {v : Value} {e : EV} (h : RepE S v e) : RepE S' v e := by
  cases e with
  | cv c => exact RepC.map hm h
  | tup l =>
    obtain ⟨xs, rfl, hl, hr⟩ := h
    exact ⟨xs, rfl, hl, fun j hj => RepC.map hm (hr j hj)⟩

theorem RepL.map {S S' : Sc} (hm : ∀ v s, RepS S v s → RepS S' v s) {xs : Array Value} {l : List SV} (h : RepL S xs l) : RepL S' xs l :=
  ⟨h.1, fun j hj => ⟨hm _ _ (h.2 j hj).1, (h.2 j hj).2⟩⟩

theorem RepA.mono {c c' : Ctx} (hle : c.le c') {xs : Array Value} {l : List AVal} (h : RepA c xs l) : RepA c' xs l :=
  ⟨h.1, fun j hj => ⟨Rep.mono hle (h.2 j hj).1, (h.2 j hj).2⟩⟩

theorem RepH.move {c c' : Ctx} (hle : c.le c') {ob : Option Nat} (hk : ∀ b, ob = some b → c'.κ b = c.κ b ∧ c'.w.heap[b]? = c.w.heap[b]?) {v : Value} {x : HCell} (h : RepH c ob v x) : RepH c' ob v x := by
  cases x with
  | val a => exact ⟨Rep.mono hle h.1, h.2⟩
  | own sz es => exact ⟨Rep.mono hle h.1, h.2.move hk⟩

theorem ObjOK.move {c c' : Ctx} {β : Owner → Option Nat} (hle : c.le c') (hk : ∀ o b, β o = some b → c'.κ b = c.κ b ∧ c'.w.heap[b]? = c.w.heap[b]?) {id : Nat} (hid : id < c.n)
    (hg : c'.w.heap[c.ι id]? = c.w.heap[c.ι id]?) {o : Obj} (h : ObjOK c β id o) : ObjOK c' β id o := by
  unfold ObjOK at *
  rw [hle.ι id hid, hg]
  cases o with
  | cells hs =>
    obtain ⟨xs, el, h1, h2, h3⟩ := h
    exact ⟨xs, el, h1, h2, fun j hj => (h3 j hj).move hle (hk _)⟩
  | map kt es ck =>
    obtain ⟨ents, h1, h2, h3⟩ := h
    exact ⟨ents, h1, h2, fun j hj => ⟨Rep.mono hle (h3 j hj).1, Rep.mono hle (h3 j hj).2.1, (h3 j hj).2.2⟩⟩

theorem BoxOK.move {S : Sc} {c' : Ctx} (hle : S.c.le c') (hk : ∀ o b, S.β o = some b → c'.κ b = S.c.κ b ∧ c'.w.heap[b]? = S.c.w.heap[b]?) (hc : ∀ id o, id < S.c.n → c'.w.cell? ⟨S.c.ι id, o, none⟩ = S.c.w.cell? ⟨S.c.ι id, o, none⟩)
    {d : Nat} (hg : c'.w.heap[S.lam d]? = S.c.w.heap[S.lam d]?) {b : Box} (h : BoxOK S d b) : BoxOK (S.withC c') d b := by
  unfold BoxOK at *
  cases b with
  | plain cs =>
    obtain ⟨xs, el, h1, h2⟩ := h
    exact ⟨xs, el, by simp only [Sc.withC]; rw [hg]; exact h1, RepA.mono hle h2⟩
  | rich l =>
    obtain ⟨xs, el, h1, h2⟩ := h
    exact ⟨xs, el, by simp only [Sc.withC]; rw [hg]; exact h1, RepL.map (fun v s => RepS.move hle hk hc) h2⟩
  | arr sz es =>
    obtain ⟨xs, el, h1, h2, h3⟩ := h
    exact ⟨xs, el, by simp only [Sc.withC]; rw [hg]; exact h1, h2.mono hle, h3⟩

/-- The scene in another world that keeps what it leans on. -/
theorem Rel.move {base : Bs} {S : Sc} {fr : Fr} {a : Act} (r : Rel base S fr a w) {c' : Ctx} (hle : S.c.le c') (hn : c'.n = S.c.n)
    (hs : S.c.w.heap.size ≤ c'.w.heap.size) (hheap : ∀ b, Leans S fr b → c'.w.heap[b]? = S.c.w.heap[b]?) (hκ : ∀ b, Leans S fr b → c'.κ b = S.c.κ b)
    (hlim : ∀ b l, c'.κ b = some l → b < c'.w.heap.size) : Rel base (S.withC c') fr a c'.w := by
  have hk : ∀ o b, S.β o = some b → c'.κ b = S.c.κ b ∧ c'.w.heap[b]? = S.c.w.heap[b]? := fun o b h => ⟨hκ b (.inr (.inl ⟨o, h⟩)), hheap b (.inr (.inl ⟨o, h⟩))⟩
  have hc : ∀ id o, id < S.c.n → c'.w.cell? ⟨S.c.ι id, o, none⟩ = S.c.w.cell? ⟨S.c.ι id, o, none⟩ := fun id o h => cell_of_heap (hheap _ (.inl ⟨id, h, rfl⟩))
  exact {
    w := rfl
    defers := r.defers
    heap := {
      n := by simp only [Sc.withC]; rw [hn]; exact r.heap.n
      obj := fun id o ho => by
        have hid : id < S.c.n := by rw [r.heap.n]; exact (List.getElem?_eq_some_iff.1 ho).1
        exact ObjOK.move hle hk hid (hheap _ (.inl ⟨id, hid, rfl⟩)) (r.heap.obj id o ho)
      κ := fun id h => by
        simp only [Sc.withC] at h ⊢
        rw [hn] at h
        rw [hle.ι id h, hκ _ (.inl ⟨id, h, rfl⟩)]
        exact r.heap.κ id h
      inj := fun id id' h h' e => by
        simp only [Sc.withC] at h h' e
        rw [hn] at h h'
        rw [hle.ι id h, hle.ι id' h'] at e
        exact r.heap.inj id id' h h' e }
    own := {
      blk := fun o b h => by
        obtain ⟨xs, el, hg⟩ := r.own.blk o b h
        exact ⟨xs, el, by simp only [Sc.withC]; rw [hheap _ (.inr (.inl ⟨o, h⟩))]; exact hg⟩
      κ := fun o b h => by simp only [Sc.withC]; rw [(hk o b h).1]; exact r.own.κ o b h
      inj := r.own.inj
      lim := hlim
      cl := fun id o b h => by simp only [Sc.withC]; rw [hn]; exact r.own.cl id o b h }
    baseLe := Nat.le_trans r.baseLe hs
    bx := r.bx
    env := fun s e he => RepE.map (fun v s => RepS.move hle hk hc) (r.env s e he)
    box := fun d b hb => BoxOK.move hle hk hc (hheap _ (.inr (.inr ⟨d, b, hb, rfl⟩))) (r.box d b hb)
    boxκ := fun d b hb => by simp only [Sc.withC]; rw [hκ _ (.inr (.inr ⟨d, b, hb, rfl⟩))]; exact r.boxκ d b hb
    boxι := fun d b hb id hid => by
      simp only [Sc.withC] at hid ⊢
      rw [hn] at hid
      rw [hle.ι id hid]
      exact r.boxι d b hb id hid
    boxinj := r.boxinj
    boxbase := r.boxbase
    tokbase := r.tokbase
    mgd := fun b h => r.mgd b (by
      rcases h with ⟨id, hid, rfl⟩ | h
      · simp only [Sc.withC] at hid ⊢
        rw [hn] at hid
        rw [hle.ι id hid]
        exact .inl ⟨id, hid, rfl⟩
      · exact .inr h) }

/-- A new block. -/
def Ctx.alloc (c : Ctx) (o : Go.Obj) (k : Option Nat) : Ctx := { c with w := c.w.alloc o, κ := fun b => if b = c.w.heap.size then k else c.κ b }

theorem alloc_old {w : World} {o : Go.Obj} {b : Nat} (h : b < w.heap.size) : (w.alloc o).heap[b]? = w.heap[b]? := by
  simp only [World.alloc, Array.getElem?_push]
  rw [if_neg (by omega)]
theorem alloc_new {w : World} {o : Go.Obj} : (w.alloc o).heap[w.heap.size]? = some o := by
  show (w.heap.push o)[w.heap.size]? = some o
  simp

theorem Ctx.le_alloc {c : Ctx} {o : Go.Obj} {k : Option Nat} (hl : ∀ b l, c.κ b = some l → b < c.w.heap.size) : c.le (c.alloc o k) :=
  ⟨Nat.le_refl _, fun _ _ => rfl, fun b l h => ⟨l, by have := hl b l h; simp only [Ctx.alloc]; rw [if_neg (by omega)]; exact h, Nat.le_refl _, fun o' _ => cell_of_heap (alloc_old (hl b l h))⟩⟩

theorem Pres.alloc {base : Bs} {c : Ctx} {β : Owner → Option Nat} {o : Go.Obj} {k : Option Nat} (hl : ∀ b l, c.κ b = some l → b < c.w.heap.size) (hb : base.n ≤ c.w.heap.size) :
    Pres base c β (c.alloc o k) β :=
  ⟨Ctx.le_alloc hl, by simp [Ctx.alloc], fun b hb' => ⟨alloc_old (by have := Bs.lt hb'; omega), by have := Bs.lt hb'; simp only [Ctx.alloc]; rw [if_neg (by omega)]⟩, ⟨rfl, rfl⟩⟩

theorem Rel.alloc {base : Bs} {S : Sc} {fr : Fr} {a : Act} (r : Rel base S fr a w) (o : Go.Obj) (k : Option Nat) :
    Rel base (S.withC (S.c.alloc o k)) fr a (w.alloc o) := by
  have h := r.move (c' := S.c.alloc o k) (Ctx.le_alloc r.own.lim) rfl (by simp [Ctx.alloc]) (fun b hb => alloc_old (r.leanslt hb))
    (fun b hb => by have := r.leanslt hb; simp only [Ctx.alloc]; rw [if_neg (by omega)]) (fun b l hk => by
      simp only [Ctx.alloc] at hk ⊢
      split at hk
      · rename_i e; subst e; simp
      · have := r.own.lim b l hk; simp; omega)
  have e : (S.c.alloc o k).w = w.alloc o := by simp only [Ctx.alloc]; rw [r.w]
  rw [e] at h
  exact h

/-- Only the count of draws has moved. -/
theorem Rel.sameHeap {base : Bs} {S : Sc} {fr : Fr} {a : Act} (r : Rel base S fr a w) {w' : World} (h : w'.heap = w.heap) (hio : w'.os = w.os ∧ w'.output = w.output) :
    Rel base (S.withC { S.c with w := w' }) fr a w' ∧ Pres base S.c S.β { S.c with w := w' } S.β := by
  have hw : w'.heap = S.c.w.heap := by rw [r.w]; exact h
  have hle : S.c.le { S.c with w := w' } := ⟨Nat.le_refl _, fun _ _ => rfl, fun b l hk => ⟨l, hk, Nat.le_refl _, fun o _ => by simp [World.cell?, hw]⟩⟩
  exact ⟨r.move (c' := { S.c with w := w' }) hle rfl (by simp only; rw [hw]; exact Nat.le_refl _) (fun b _ => by simp only; rw [hw]) (fun b _ => rfl) (fun b l hk => by simp only; rw [hw]; exact r.own.lim b l hk),
    hle, by simp only; rw [hw]; exact Nat.le_refl _, fun b _ => ⟨by simp only; rw [hw], rfl⟩, by simp only; rw [r.w]; exact hio⟩
end Go.Weave
end

section
/- The evaluator's literals do what the machine's do. -/
namespace Go.Weave
variable {P : Program} {w : World} {R : Type} {Q : R → Prop}

theorem foldl_splice (vs : List Value) : ∀ (off k : Nat) (cs : Array Value), off + k + vs.length ≤ cs.size →
    ((vs.zipIdx k).foldl (fun cs (p : Value × Nat) => cs.setIfInBounds (off + p.2) p.1) cs).toList = spliceAt (off + k) vs cs.toList := by
  induction vs with
  | nil => intro off k cs _; simp [spliceAt]
  | cons v vs ih =>
    intro off k cs hl
    simp only [List.length_cons] at hl
    simp only [List.zipIdx_cons, List.foldl_cons]
    rw [ih off (k + 1) _ (by simp; omega)]
    have e := list_seg_step cs.toList (off + k) v vs (by simp; omega)
    simp only [spliceAt, Array.toList_setIfInBounds]
    rw [show off + (k + 1) = off + k + 1 by omega]
    rw [e]
    simp

theorem spliceAt_length {α : Type} {off : Nat} {new l : List α} (h : off + new.length ≤ l.length) : (spliceAt off new l).length = l.length := by
  simp [spliceAt]; omega

theorem spliceAt_getD {α : Type} {off : Nat} {new l : List α} (d : α) (h : off + new.length ≤ l.length) (j : Nat) :
    (spliceAt off new l).getD j d = if off ≤ j ∧ j < off + new.length then new.getD (j - off) d else l.getD j d := by
  have ht : (l.take off).length = off := by simp; omega
  simp only [spliceAt, List.getD_eq_getElem?_getD, List.append_assoc]
  by_cases h1 : j < off
  · rw [if_neg (by omega), List.getElem?_append_left (by omega), List.getElem?_take, if_pos h1]
  · rw [List.getElem?_append_right (by omega), ht]
    by_cases h2 : j < off + new.length
    · rw [if_pos ⟨by omega, h2⟩, List.getElem?_append_left (by omega)]
    · rw [if_neg (by omega), List.getElem?_append_right (by omega), List.getElem?_drop]
      congr 2
      omega

theorem arr_getD (xs : Array Value) (j : Nat) (d : Value) : xs.getD j d = xs.toList.getD j d := by
  simp [Array.getD_eq_getD_getElem?, List.getD_eq_getElem?_getD]

theorem RepA.splice {c : Ctx} {xs ys zs : Array Value} {l m : List AVal} {off : Nat} (h : RepA c xs l) (h' : RepA c ys m) (hn : off + m.length ≤ l.length)
    (hz : zs.toList = spliceAt off ys.toList xs.toList) : RepA c zs (spliceAt off m l) := by
  have e1 : ys.toList.length = m.length := by simpa using h'.1
  have e2 : xs.toList.length = l.length := by simpa using h.1
  refine ⟨by rw [← Array.length_toList, hz, spliceAt_length (by omega), spliceAt_length (by omega)]; omega, fun j hj => ?_⟩
  rw [spliceAt_length hn] at hj
  rw [arr_getD, hz, spliceAt_getD _ (by omega), spliceAt_getD _ hn]
  rw [e1]
  split
  · rw [← arr_getD]; exact h'.2 _ (by omega)
  · rw [← arr_getD]; exact h.2 _ hj

theorem RepL.splice {S : Sc} {xs ys zs : Array Value} {l m : List SV} {off : Nat} (h : RepL S xs l) (h' : RepL S ys m) (hn : off + m.length ≤ l.length)
    (hz : zs.toList = spliceAt off ys.toList xs.toList) : RepL S zs (spliceAt off m l) := by
  have e1 : ys.toList.length = m.length := by simpa using h'.1
  have e2 : xs.toList.length = l.length := by simpa using h.1
  refine ⟨by rw [← Array.length_toList, hz, spliceAt_length (by omega), spliceAt_length (by omega)]; omega, fun j hj => ?_⟩
  rw [spliceAt_length hn] at hj
  rw [arr_getD, hz, spliceAt_getD _ (by omega), spliceAt_getD _ hn]
  rw [e1]
  split
  · rw [← arr_getD]; exact h'.2 _ (by omega)
  · rw [← arr_getD]; exact h.2 _ hj

/-- Parts, one by one. -/
def RepP (S : Sc) : List (Nat × Value) → List (Nat × EV) → Prop
  | [], [] => True
  | (i, v) :: r, (j, e) :: s => i = j ∧ RepE S v e ∧ RepP S r s
  | _, _ => False

theorem fill_one {off sz : Nat} {v : Value} {cells : Array Value} (h : v.cells.size = sz) (hn : off + sz ≤ cells.size) :
    (¬(v.cells.size ≠ sz || decide (off + v.cells.size > cells.size)) = true) ∧
    (v.cells.zipIdx.foldl (fun cs (p : Value × Nat) => cs.setIfInBounds (off + p.2) p.1) cells).toList = spliceAt off v.cells.toList cells.toList := by
  refine ⟨by simp; omega, ?_⟩
  rw [← Array.foldl_toList, Array.toList_zipIdx, foldl_splice _ off 0 _ (by simp; omega), Nat.add_zero]

theorem fillA_ok {S : Sc} {place : Nat → Option (Nat × Nat)} : ∀ (ps : List (Nat × AVal)) (es : List (Nat × EV)) (vs : List (Nat × Value)) (cs : List AVal) (xs : Array Value) (out : List AVal),
    toAs es = some ps → RepP S vs es → RepA S.c xs cs → fillA place cs ps = some out → ∃ ys, Instr.fill place xs vs = some ys ∧ RepA S.c ys out
  | [], es, vs, cs, xs, out, he, hp, hr, h => by
    cases es with
    | nil =>
      cases vs with
      | nil => simp only [fillA, Option.some.injEq] at h; subst h; exact ⟨xs, rfl, hr⟩
      | cons v vs => exact hp.elim
    | cons e es =>
      obtain ⟨i, x⟩ := e
      simp only [toAs] at he
      split at he <;> simp at he
  | p :: ps, es, vs, cs, xs, out, he, hp, hr, h => by
    cases es with
    | nil => simp [toAs] at he
    | cons e es =>
      obtain ⟨i, x⟩ := e
      cases vs with
      | nil => exact hp.elim
      | cons v vs =>
        obtain ⟨i', v⟩ := v
        obtain ⟨rfl, rv, hp⟩ := hp
        simp only [toAs] at he
        split at he
        · rename_i a l ha hl
          simp only [Option.some.injEq, List.cons.injEq] at he
          obtain ⟨rfl, rfl⟩ := he
          simp only [fillA] at h
          split at h
          · rename_i off sz hpl
            cases hb : (decide (0 < sz) && (a.cells.length == sz) && decide (off + sz ≤ cs.length)) <;> simp only [hb, cond_true, cond_false, reduceCtorEq] at h
            simp only [Bool.and_eq_true, decide_eq_true_eq, beq_iff_eq] at hb
            obtain ⟨⟨h0, h1⟩, h2⟩ := hb
            have rc := Rep.cells (RepE.toA rv ha)
            have f1 := fill_one (off := off) (v := v) (cells := xs) (sz := sz) (by rw [rc.1, h1]) (by rw [hr.1]; exact h2)
            obtain ⟨ys, hy, hr'⟩ := fillA_ok l es vs (spliceAt off a.cells cs) _ out hl hp (hr.splice rc (by omega) f1.2) h
            refine ⟨ys, ?_, hr'⟩
            simp only [Instr.fill, hpl]
            rw [if_neg f1.1]
            exact hy
          · simp at h
        · simp at he

theorem fillS_ok {S : Sc} {place : Nat → Option (Nat × Nat)} : ∀ (ps : List (Nat × CV)) (es : List (Nat × EV)) (vs : List (Nat × Value)) (cs : List SV) (xs : Array Value) (out : List SV),
    toCs es = some ps → RepP S vs es → RepL S xs cs → fillS place cs ps = some out → ∃ ys, Instr.fill place xs vs = some ys ∧ RepL S ys out
  | [], es, vs, cs, xs, out, he, hp, hr, h => by
    cases es with
    | nil =>
      cases vs with
      | nil => simp only [fillS, Option.some.injEq] at h; subst h; exact ⟨xs, rfl, hr⟩
      | cons v vs => exact hp.elim
    | cons e es =>
      obtain ⟨i, x⟩ := e
      cases x with
      | cv c => simp only [toCs] at he; split at he <;> simp at he
      | tup l => simp [toCs] at he
  | p :: ps, es, vs, cs, xs, out, he, hp, hr, h => by
    cases es with
    | nil => simp [toCs] at he
    | cons e es =>
      obtain ⟨i, x⟩ := e
      cases vs with
      | nil => exact hp.elim
      | cons v vs =>
        obtain ⟨i', v⟩ := v
        obtain ⟨rfl, rv, hp⟩ := hp
        cases x with
        | tup l => simp [toCs] at he
        | cv c =>
          simp only [toCs] at he
          split at he
          · rename_i l hl
            simp only [Option.some.injEq, List.cons.injEq] at he
            obtain ⟨rfl, rfl⟩ := he
            simp only [fillS] at h
            split at h
            · rename_i off sz hpl
              cases hb : (decide (0 < sz) && (c.cellsS.length == sz) && decide (off + sz ≤ cs.length)) <;> simp only [hb, cond_true, cond_false, reduceCtorEq] at h
              simp only [Bool.and_eq_true, decide_eq_true_eq, beq_iff_eq] at hb
              obtain ⟨⟨h0, h1⟩, h2⟩ := hb
              have hu : c ≠ .one .unk := fun e => by subst e; simp [CV.cellsS] at h1; omega
              have rc := RepC.cellsS (S := S) rv hu
              have f1 := fill_one (off := off) (v := v) (cells := xs) (sz := sz) (by rw [rc.1, h1]) (by rw [hr.1]; exact h2)
              obtain ⟨ys, hy, hr'⟩ := fillS_ok l es vs (spliceAt off c.cellsS cs) _ out hl hp (hr.splice rc (by omega) f1.2) h
              refine ⟨ys, ?_, hr'⟩
              simp only [Instr.fill, hpl]
              rw [if_neg f1.1]
              exact hy
            · simp at h
          · simp at he

theorem run_places : ∀ (fs : List Field), (∀ f ∈ fs, (P.info? f.type).isSome = true) →
    (fs.mapM (fun f => do pure (f.offset, ← sizeOf f.type) : Field → Sem (Nat × Nat))).run P w = .ok (fs.map fun f => (f.offset, szOf P f.type)) w
  | [], _ => by simp
  | f :: fs, h => by
    obtain ⟨i, hi⟩ := Option.isSome_iff_exists.1 (h f (by simp))
    have e : (sizeOf f.type).run P w = .ok (szOf P f.type) w := by simp [sizeOf, typeInfo, hi, szOf]
    have ih := run_places fs (fun g hg => h g (by simp [hg]))
    simp only [List.mapM_cons, Sem.run_bind, e, Result.andThen_ok, Sem.run_pure, ih, List.map_cons]

theorem run_build {t : TypeId} {place : Nat → Option (Nat × Nat)} {z : Value} {ys : Array Value} {parts : Array (Nat × Value)} (hpl : placeOf P t = some place)
    (hz : (zeroValue t).run P w = .ok z w) (hf : Instr.fill place z.cells parts.toList = some ys) : (Instr.build t parts).run P w = .ok (.agg ys) w := by
  unfold Instr.build
  simp only [Sem.run_bind, hz, Result.andThen_ok]
  rcases placeOf_ok hpl with ⟨fs, hu, hall, rfl⟩ | ⟨n, e, hu, hi, rfl⟩
  · simp only [run_underlying hu, Result.andThen_ok, Sem.run_bind]
    have e1 : (fs.mapM (fun f => do pure (f.offset, ← sizeOf f.type) : Field → Sem (Nat × Nat))).run P w = .ok (fs.map fun f => (f.offset, szOf P f.type)) w := by
      rw [Array.mapM_eq_mapM_toList, Sem.run_map, run_places (P := P) (w := w) fs.toList hall]
      simp only [Result.andThen_ok, Result.ok.injEq, and_true]
      apply Array.ext'
      simp
    rw [e1]
    simp only [Result.andThen_ok]
    have e2 : (fun x : Nat => (fs.map fun f : Field => (f.offset, szOf P f.type))[x]?) = fun i : Nat => (fs[i]?).map fun f : Field => (f.offset, szOf P f.type) := by
      funext i; simp
    rw [e2, hf]
    rfl
  · obtain ⟨i, hi⟩ := Option.isSome_iff_exists.1 hi
    have e : (sizeOf e).run P w = .ok (szOf P e) w := by simp [sizeOf, typeInfo, hi, szOf]
    simp only [run_underlying hu, Result.andThen_ok, Sem.run_bind, e, hf]
    rfl

theorem buildK_ok {S : Sc} {rich : Bool} {t : TypeId} {es : List (Nat × EV)} {vs : Array (Nat × Value)} {K : EV → Tr R} (hp : RepP S vs.toList es) (h : (buildK P rich t es K).All Q) :
    ∃ v e, (∀ w, (Instr.build t vs).run P w = .ok v w) ∧ RepE S v e ∧ (K e).All Q := by
  unfold buildK at h
  obtain ⟨z, hz, h⟩ := all_optK h
  obtain ⟨place, hpl, h⟩ := all_optK h
  obtain ⟨zv, hzr, hzz⟩ := run_zeroA hz S.c
  have hzc := Rep.cells hzz
  cases rich <;> simp only [cond_true, cond_false] at h
  · obtain ⟨ps, hps, h⟩ := all_optK h
    obtain ⟨l, hl, h⟩ := all_optK h
    obtain ⟨ys, hy, hr⟩ := fillA_ok ps es _ _ _ l hps hp hzc hl
    refine ⟨_, _, fun w => run_build hpl (hzr w) hy, repE_val (.agg _ _ hr.1 (fun x hx => ?_) (fun j hj => (hr.2 j hj).1)), h⟩
    obtain ⟨j, hj, rfl⟩ := List.getElem_of_mem hx
    have := (hr.2 j hj).2
    simpa [hj] using this
  · obtain ⟨ps, hps, h⟩ := all_optK h
    obtain ⟨l, hl, h⟩ := all_optK h
    obtain ⟨ys, hy, hr⟩ := fillS_ok ps es _ _ _ l hps hp (RepA.toL hzc) hl
    exact ⟨_, _, fun w => run_build hpl (hzr w) hy, show RepE S _ (.agg l) from ⟨ys, rfl, hr⟩, h⟩
end Go.Weave
end

section
/- The evaluator's ghosts: tokens that go, come, and are handed on; new variables. -/
namespace Go.Weave
variable {P : Program} {w : World} {R : Type} {Q : R → Prop}

def upd (β : Owner → Option Nat) (o : Owner) (x : Option Nat) : Owner → Option Nat := fun o' => if o' = o then x else β o'
theorem upd_eq {β : Owner → Option Nat} {o : Owner} {x : Option Nat} : upd β o x o = x := by simp [upd]
theorem upd_ne {β : Owner → Option Nat} {o o' : Owner} {x : Option Nat} (h : o' ≠ o) : upd β o x o' = β o' := by simp [upd, h]

theorem upd_cell {β : Owner → Option Nat} {g id o : Nat} {x : Option Nat} : upd β (.tok g) x (.cell id o) = β (.cell id o) := by simp [upd]

theorem upd_tok {β : Owner → Option Nat} {g g' : Nat} {x : Option Nat} (h : g' ≠ g) : upd β (.tok g) x (.tok g') = β (.tok g') := upd_ne (fun e => h (by cases e; rfl))

theorem mgd_tok {c : Ctx} {β : Owner → Option Nat} {g b : Nat} {x : Option Nat} (h : Mgd c (upd β (.tok g) x) b) : Mgd c β b := by
  rcases h with h | ⟨id, o, h⟩
  · exact .inl h
  · rw [upd_cell] at h; exact .inr ⟨id, o, h⟩

theorem any_env {p : SV → Bool} {fr : Fr} (h : fr.any p = false) {s : Nat} {e : EV} (he : look s fr.env = some e) : e.any p = false := by
  simp only [Fr.any, Bool.or_eq_false_iff] at h
  have : ∀ l : List (Nat × EV), (l.any fun x => x.2.any p) = false → look s l = some e → e.any p = false := by
    intro l
    induction l with
    | nil => intro _ h; simp [look] at h
    | cons x r ih =>
      obtain ⟨k, v⟩ := x
      intro h he
      simp only [List.any_cons, Bool.or_eq_false_iff] at h
      simp only [look] at he
      cases hk : k == s <;> simp only [hk, cond_true, cond_false] at he
      · exact ih h.2 he
      · simp at he; subst he; exact h.1
  exact this _ h.1 he

theorem any_box {p : SV → Bool} {fr : Fr} (h : fr.any p = false) {s : Nat} {b : Box} (he : look s fr.boxes = some b) : b.any p = false := by
  simp only [Fr.any, Bool.or_eq_false_iff] at h
  have : ∀ l : List (Nat × Box), (l.any fun x => x.2.any p) = false → look s l = some b → b.any p = false := by
    intro l
    induction l with
    | nil => intro _ h; simp [look] at h
    | cons x r ih =>
      obtain ⟨k, v⟩ := x
      intro h he
      simp only [List.any_cons, Bool.or_eq_false_iff] at h
      simp only [look] at he
      cases hk : k == s <;> simp only [hk, cond_true, cond_false] at he
      · exact ih h.2 he
      · simp at he; subst he; exact h.1
  exact this _ h.2 he

theorem any_getD {p : SV → Bool} {l : List SV} (h : l.any p = false) (hu : p .unk = false) (j : Nat) : p (l.getD j .unk) = false := by
  by_cases hj : j < l.length
  · have := List.any_eq_false.1 h l[j] (List.getElem_mem hj)
    simpa [hj] using this
  · simp only [List.getD_eq_getElem?_getD, List.getElem?_eq_none (Nat.le_of_not_lt hj), Option.getD_none]; exact hu

section
variable {S S' : Sc} {p : SV → Bool} {f : SV → SV}

theorem RepL.mapS (hu : p .unk = false) (hm : ∀ v s, p s = false → RepS S v s → RepS S' v (f s)) {xs : Array Value} {l : List SV} (hp : l.any p = false) (h : RepL S xs l) :
    RepL S' xs (l.map f) :=
  ⟨by simpa using h.1, fun j hj => by
    have hj' : j < l.length := by simpa using hj
    have e : (l.map f).getD j .unk = f (l.getD j .unk) := by simp [hj']
    rw [e]
    exact ⟨hm _ _ (any_getD hp hu j) (h.2 j hj').1, (h.2 j hj').2⟩⟩

theorem RepC.mapS (hu : p .unk = false) (hm : ∀ v s, p s = false → RepS S v s → RepS S' v (f s)) {v : Value} {c : CV} (hp : c.any p = false) (h : RepC S v c) : RepC S' v (c.mapS f) := by
  cases c with
  | one s => exact hm _ _ hp h
  | agg l => obtain ⟨xs, rfl, hl⟩ := h; exact ⟨xs, rfl, RepL.mapS hu hm hp hl⟩

theorem RepE.mapS (hu : p .unk = false) (hm : ∀ v s, p s = false → RepS S v s → RepS S' v (f s)) {v : Value} {e : EV} (hp : e.any p = false) (h : RepE S v e) : RepE S' v (e.mapS f) := by
  cases e with
  | cv c => exact RepC.mapS hu hm hp h
  | tup l =>
    obtain ⟨xs, rfl, hl, hr⟩ := h
    refine ⟨xs, rfl, by simpa using hl, fun j hj => ?_⟩
    have hj' : j < l.length := by simpa using hj
    have e : (l.map (CV.mapS f)).getD j (.one .unk) = (l.getD j (.one .unk)).mapS f := by simp [hj']
    rw [e]
    refine RepC.mapS hu hm ?_ (hr j hj')
    have := List.any_eq_false.1 hp l[j] (List.getElem_mem hj')
    simpa [hj'] using this

/-- The frame under another word for its values. -/
theorem Rel.mapS {base : Bs} {fr : Fr} {a : Act} (r : Rel base S fr a w) (hp : fr.any p = false) (hu : p .unk = false) (hc : S'.c = S.c) (hlam : S'.lam = S.lam) (hsh : S'.sh = S.sh) (hbx : S'.bx = (fr.mapS f).boxes)
    (hm : ∀ v s, p s = false → RepS S v s → RepS S' v (f s)) (heap : HRel S'.c S'.β S'.H) (own : BRel S'.c S'.β) (tok : ∀ g b, S'.β (.tok g) = some b → base.ok b) (mgd : ∀ b, Mgd S'.c S'.β b → base.ok b) :
    Rel base S' (fr.mapS f) a w := by
  have hb : ∀ d b, look d (fr.mapS f).boxes = some b → ∃ b0, look d fr.boxes = some b0 ∧ b = b0.mapS f := fun d b h => by
    simp only [Fr.mapS, look_map] at h
    cases h0 : look d fr.boxes with
    | none => simp [h0] at h
    | some b0 => simp [h0] at h; exact ⟨b0, rfl, h.symm⟩
  exact {
    w := by rw [hc]; exact r.w
    defers := r.defers
    heap := heap
    own := own
    baseLe := by rw [hc]; exact r.baseLe
    bx := hbx
    env := fun s e he => by
      simp only [Fr.mapS, look_map] at he
      cases h0 : look s fr.env with
      | none => simp [h0] at he
      | some e0 => simp [h0] at he; subst he; exact RepE.mapS hu hm (any_env hp h0) (r.env s e0 h0)
    box := fun d b h => by
      obtain ⟨b0, h0, rfl⟩ := hb d b h
      have := r.box d b0 h0
      have hpb := any_box hp h0
      cases b0 with
      | plain cs =>
        obtain ⟨xs, el, h1, h2⟩ := this
        exact ⟨xs, el, by rw [hc, hlam]; exact h1, by rw [hc]; exact h2⟩
      | rich l =>
        obtain ⟨xs, el, h1, h2⟩ := this
        exact ⟨xs, el, by rw [hc, hlam]; exact h1, RepL.mapS hu hm hpb h2⟩
      | arr sz es =>
        obtain ⟨xs, el, h1, h2, h3⟩ := this
        exact ⟨xs, el, by rw [hc, hlam]; exact h1, by rw [hc]; exact h2, by rw [hsh]; exact h3⟩
    boxκ := fun d b h => by obtain ⟨b0, h0, rfl⟩ := hb d b h; rw [hc, hlam]; exact r.boxκ d b0 h0
    boxι := fun d b h => by obtain ⟨b0, h0, rfl⟩ := hb d b h; rw [hc, hlam]; exact r.boxι d b0 h0
    boxinj := fun d d' b b' h h' => by obtain ⟨b0, h0, rfl⟩ := hb d b h; obtain ⟨b1, h1, rfl⟩ := hb d' b' h'; rw [hlam]; exact r.boxinj d d' b0 b1 h0 h1
    boxbase := fun d b h => by obtain ⟨b0, h0, rfl⟩ := hb d b h; rw [hlam]; exact r.boxbase d b0 h0
    tokbase := tok
    mgd := mgd }
end

theorem look_mapS_isSome {fr : Fr} {f : SV → SV} {d : Nat} : (look d (fr.mapS f).boxes).isSome = (look d fr.boxes).isSome := by
  simp [Fr.mapS, look_map]

theorem any_false (fr : Fr) : fr.any (fun _ => false) = false := by
  have h1 : ∀ c : CV, c.any (fun _ => false) = false := fun c => by cases c <;> simp [CV.any]
  have h2 : ∀ e : EV, e.any (fun _ => false) = false := fun e => by cases e <;> simp [EV.any, h1]
  have h3 : ∀ b : Box, b.any (fun _ => false) = false := fun b => by cases b <;> simp [Box.any]
  simp [Fr.any, h2, h3]

theorem HRel.ofCell {c : Ctx} {β β' : Owner → Option Nat} {H : Heap} (h : HRel c β H) (hb : ∀ id o, β' (.cell id o) = β (.cell id o)) : HRel c β' H :=
  ⟨h.n, fun id o ho => by
    have := h.obj id o ho
    unfold ObjOK at *
    cases o with
    | cells hs =>
      obtain ⟨xs, el, h1, h2, h3⟩ := this
      exact ⟨xs, el, h1, h2, fun j hj => by rw [hb]; exact h3 j hj⟩
    | map kt es ck => exact this, h.κ, h.inj⟩

theorem BRel.drop {c : Ctx} {β : Owner → Option Nat} (h : BRel c β) (o : Owner) : BRel c (upd β o none) := by
  have hh : ∀ o' b, upd β o none o' = some b → β o' = some b := fun o' b h' => by
    by_cases e : o' = o
    · subst e; simp [upd] at h'
    · rwa [upd_ne e] at h'
  exact ⟨fun o' b h' => h.blk o' b (hh o' b h'), fun o' b h' => h.κ o' b (hh o' b h'), fun o1 o2 b h1 h2 => h.inj o1 o2 b (hh _ _ h1) (hh _ _ h2), h.lim, fun id o b h' => h.cl id o b (hh _ b h')⟩

theorem BRel.give {c : Ctx} {β : Owner → Option Nat} (h : BRel c β) {o : Owner} {b : Nat} (hblk : ∃ xs el, c.w.heap[b]? = some (.cells xs el (0, 0))) (hk : c.κ b ≠ none) (hno : ∀ o', β o' ≠ some b) (hcl : ∀ id j, o = .cell id j → id < c.n) :
    BRel c (upd β o (some b)) := by
  have hh : ∀ o' b', upd β o (some b) o' = some b' → (o' = o ∧ b' = b) ∨ (o' ≠ o ∧ β o' = some b') := fun o' b' h' => by
    by_cases e : o' = o
    · subst e; rw [upd_eq] at h'; exact .inl ⟨rfl, by simpa using h'.symm⟩
    · rw [upd_ne e] at h'; exact .inr ⟨e, h'⟩
  refine ⟨fun o' b' h' => ?_, fun o' b' h' => ?_, fun o1 o2 b' h1 h2 => ?_, h.lim, fun id j b' h' => by
    rcases hh _ _ h' with ⟨e, _⟩ | ⟨_, h'⟩
    · exact hcl _ _ e.symm
    · exact h.cl _ _ _ h'⟩
  · rcases hh _ _ h' with ⟨_, rfl⟩ | ⟨_, h'⟩
    · exact hblk
    · exact h.blk _ _ h'
  · rcases hh _ _ h' with ⟨_, rfl⟩ | ⟨_, h'⟩
    · exact hk
    · exact h.κ _ _ h'
  · rcases hh _ _ h1 with ⟨e1, e2⟩ | ⟨_, k1⟩
    · rcases hh _ _ h2 with ⟨e3, _⟩ | ⟨_, k2⟩
      · rw [e1, e3]
      · rw [e2] at k2; exact absurd k2 (hno _)
    · rcases hh _ _ h2 with ⟨_, e4⟩ | ⟨_, k2⟩
      · rw [e4] at k1; exact absurd k1 (hno _)
      · exact h.inj _ _ _ k1 k2

theorem Box.mapS_id (b : Box) : b.mapS id = b := by cases b <;> simp [Box.mapS]
theorem CV.mapS_id (c : CV) : c.mapS id = c := by cases c <;> simp [CV.mapS]
theorem EV.mapS_id (e : EV) : e.mapS id = e := by
  cases e with
  | cv c => simp [EV.mapS, CV.mapS_id]
  | tup l =>
    have : l.map (CV.mapS id) = l := by
      rw [show (CV.mapS id) = id from funext CV.mapS_id]; simp
    simp [EV.mapS, this]
theorem Fr.mapS_id (fr : Fr) : fr.mapS id = fr := by cases fr; simp [Fr.mapS, EV.mapS_id, Box.mapS_id]

/-- A token goes. -/
theorem Rel.strip {base : Bs} {S : Sc} {fr : Fr} {a : Act} (r : Rel base S fr a w) (g : Nat) :
    Rel base { S with β := upd S.β (.tok g) none, bx := (fr.mapS (SV.strip g)).boxes } (fr.mapS (SV.strip g)) a w := by
  refine r.mapS (p := fun _ => false) (any_false fr) rfl rfl rfl rfl rfl (fun v s _ h => ?_) (r.heap.ofCell (β' := upd S.β (.tok g) none) fun id o => upd_cell) (r.own.drop _) (fun g' b h => ?_) (fun b h => r.mgd b (mgd_tok h))
  · cases s with
    | unk => trivial
    | val x => exact h
    | own g' sz es =>
      simp only [SV.strip]
      by_cases e : g' = g
      · subst e; simp; exact h.1
      · have : (g' == g) = false := by simpa using e
        simp only [this, cond_false]
        refine ⟨h.1, ?_⟩
        simp only
        rw [upd_tok e]
        exact h.2
    | bor id off sz es => exact h
    | loc d off =>
      refine ⟨?_, h.2⟩
      simp only
      rw [look_mapS_isSome, ← r.bx]
      exact h.1
    | lsl d =>
      refine ⟨?_, h.2⟩
      simp only
      rw [look_mapS_isSome, ← r.bx]
      exact h.1
  · by_cases e : g' = g
    · subst e; simp only [upd_eq] at h; simp at h
    · simp only [upd_tok e] at h; exact r.tokbase g' b h

/-- No look into a managed cell is remembered. -/
theorem Rel.unbor {base : Bs} {S : Sc} {fr : Fr} {a : Act} (r : Rel base S fr a w) (H : Heap) (β : Owner → Option Nat) (hβ : ∀ g, β (.tok g) = S.β (.tok g)) (hh : HRel S.c β H) (hb : BRel S.c β) (hmg : ∀ b, Mgd S.c β b → base.ok b) :
    Rel base { S with H := H, β := β, bx := (fr.mapS SV.unbor).boxes } (fr.mapS SV.unbor) a w := by
  refine r.mapS (p := fun _ => false) (any_false fr) rfl rfl rfl rfl rfl (fun v s _ h => ?_) hh hb (fun g b h => r.tokbase g b (by rw [← hβ]; exact h)) hmg
  cases s with
  | unk => trivial
  | val x => exact h
  | own g sz es => exact ⟨h.1, by simp only; rw [hβ]; exact h.2⟩
  | bor id off sz es => exact h.1
  | loc d off =>
    refine ⟨?_, h.2⟩
    simp only
    rw [look_mapS_isSome, ← r.bx]
    exact h.1
  | lsl d =>
    refine ⟨?_, h.2⟩
    simp only
    rw [look_mapS_isSome, ← r.bx]
    exact h.1

/-- A token comes: no value in the frame bears it. -/
theorem Rel.give {base : Bs} {S : Sc} {fr : Fr} {a : Act} (r : Rel base S fr a w) {g b : Nat} (hg : fr.any (SV.has g) = false) (hb : base.ok b)
    (hblk : ∃ xs el, S.c.w.heap[b]? = some (.cells xs el (0, 0))) (hk : S.c.κ b ≠ none) (hno : ∀ o, S.β o ≠ some b) : Rel base { S with β := upd S.β (.tok g) (some b) } fr a w := by
  have hm : ∀ v s, SV.has g s = false → RepS S v s → RepS { S with β := upd S.β (.tok g) (some b) } v s := fun v s hp h => by
    cases s with
    | unk => trivial
    | val x => exact h
    | own g' sz es =>
      have e : g' ≠ g := by simpa [SV.has] using hp
      refine ⟨h.1, ?_⟩
      simp only
      rw [upd_tok e]
      exact h.2
    | bor id off sz es => exact h
    | loc d off => exact h
    | lsl d => exact h
  have key : Rel base { S with β := upd S.β (.tok g) (some b), bx := (fr.mapS id).boxes } (fr.mapS id) a w := by
    refine r.mapS (p := SV.has g) (f := id) hg rfl rfl rfl rfl rfl (fun v s hp h => ?_) (r.heap.ofCell (β' := upd S.β (.tok g) (some b)) fun i o => upd_cell) (r.own.give hblk hk hno (fun _ _ h => by cases h)) (fun g' b' h => ?_) (fun b' h => r.mgd b' (mgd_tok h))
    · have := hm v s hp h
      rw [Fr.mapS_id, ← r.bx]
      exact this
    · by_cases e : g' = g
      · subst e; simp only [upd_eq] at h; simp at h; subst h; exact hb
      · simp only [upd_tok e] at h; exact r.tokbase g' b' h
  rw [Fr.mapS_id, ← r.bx] at key
  exact key

/-- A local variable comes. -/
theorem Rel.newBox0 {base : Bs} {S : Sc} {fr : Fr} {a : Act} (r : Rel base S fr a w) {d : Nat} {xs : Array Value} {el : TypeId} {b : Box} (shd : Nat × Nat) (hg : fr.any (SV.hasLoc d) = false)
    (hb : match b with | .plain cs => RepA S.c xs cs | .rich l => RepL S xs l ∧ l.any (SV.hasLoc d) = false | .arr sz es => Flat S.c xs sz es ∧ shd.1 = es.length ∧ es.length ≤ shd.2 ∧ shd.2 * cnt sz ≤ xs.size) :
    ∃ S', S'.H = S.H ∧ Pres base S.c S.β S'.c S'.β ∧ Rel base S' (fr.setBox d b) a (w.alloc (.cells xs el)) ∧ S'.lam d = w.heap.size ∧ S'.sh d = shd ∧ S'.bx = (fr.setBox d b).boxes := by
  have r1 := r.alloc (.cells xs el) none
  have hpres := Pres.alloc (β := S.β) (o := .cells xs el) (k := none) r.own.lim r.baseLe
  have hsz : S.c.w.heap.size = w.heap.size := by rw [r.w]
  let S' : Sc := { S.withC (S.c.alloc (.cells xs el) none) with lam := fun d' => if d' = d then w.heap.size else S.lam d', sh := fun d' => if d' = d then shd else S.sh d', bx := (fr.setBox d b).boxes }
  have hm : ∀ v s, SV.hasLoc d s = false → RepS (S.withC (S.c.alloc (.cells xs el) none)) v s → RepS S' v s := fun v s hp h => by
    cases s with
    | unk => trivial
    | val x => exact h
    | own g' sz es => exact h
    | bor id off sz es => exact h
    | loc d' off =>
      have e : d' ≠ d := by simpa [SV.hasLoc] using hp
      obtain ⟨h1, h2⟩ := h
      refine ⟨?_, ?_⟩
      · simp only [S', Fr.setBox]
        rw [look_ins, if_neg (Ne.symm e), ← r.bx]
        exact h1
      · simp only [S']; rw [if_neg e]; exact h2
    | lsl d' =>
      have e : d' ≠ d := by simpa [SV.hasLoc] using hp
      obtain ⟨h1, h2⟩ := h
      refine ⟨?_, ?_⟩
      · simp only [S', Fr.setBox]
        rw [look_ins, if_neg (Ne.symm e), ← r.bx]
        exact h1
      · simp only [S']; rw [if_neg e, if_neg e]; exact h2
  have hle : S.c.le (S.c.alloc (.cells xs el) none) := Ctx.le_alloc r.own.lim
  have hmk : ∀ v s, RepS S v s → RepS (S.withC (S.c.alloc (.cells xs el) none)) v s := fun v s => RepS.move hle
    (fun o b h => by
      obtain ⟨_, _, hh⟩ := r.own.blk o b h
      have := lt_of_heap hh
      exact ⟨by simp only [Ctx.alloc]; rw [if_neg (by omega)], alloc_old this⟩)
    (fun id o h => cell_of_heap (alloc_old (r.heap.lt h)))
  refine ⟨S', rfl, hpres, ?_, by simp [S'], by simp [S'], rfl⟩
  have hboxes : ∀ d' b', look d' (fr.setBox d b).boxes = some b' → (d' = d ∧ b' = b) ∨ (d' ≠ d ∧ look d' fr.boxes = some b') := fun d' b' h => look_setBox h
  have hany : ∀ {d' b'}, look d' fr.boxes = some b' → b'.any (SV.hasLoc d) = false := fun h => any_box hg h
  exact {
    w := r1.w
    defers := r.defers
    heap := r1.heap
    own := r1.own
    baseLe := r1.baseLe
    bx := rfl
    env := fun s e he => by
      have := RepE.mapS (p := SV.hasLoc d) (f := id) rfl hm (any_env hg he) (r1.env s e he)
      rw [EV.mapS_id] at this
      exact this
    box := fun d' b' h => by
      rcases hboxes d' b' h with ⟨rfl, rfl⟩ | ⟨hne, h⟩
      · cases b' with
        | plain cs => exact ⟨xs, el, by simp only [S', if_true]; rw [← hsz]; exact alloc_new, RepA.mono hle hb⟩
        | rich l =>
          refine ⟨xs, el, by simp only [S', if_true]; rw [← hsz]; exact alloc_new, ?_⟩
          have := RepL.mapS (p := SV.hasLoc d') (f := id) rfl (fun v s hp h => hm v s hp (hmk v s h)) hb.2 hb.1
          simpa using this
        | arr sz es => exact ⟨xs, el, by simp only [S', if_true]; rw [← hsz]; exact alloc_new, hb.1.mono hle, by simp only [S', if_true]; exact hb.2⟩
      · have h0 := r1.box d' b' h
        cases b' with
        | plain cs =>
          obtain ⟨ys, el', h1, h2⟩ := h0
          exact ⟨ys, el', by simp only [S']; rw [if_neg hne]; exact h1, h2⟩
        | rich l =>
          obtain ⟨ys, el', h1, h2⟩ := h0
          refine ⟨ys, el', by simp only [S']; rw [if_neg hne]; exact h1, ?_⟩
          have := RepL.mapS (p := SV.hasLoc d) (f := id) rfl hm (hany h) h2
          simpa using this
        | arr sz es =>
          obtain ⟨ys, el', h1, h2, h3⟩ := h0
          exact ⟨ys, el', by simp only [S']; rw [if_neg hne]; exact h1, h2, by simp only [S']; rw [if_neg hne]; exact h3⟩
    boxκ := fun d' b' h => by
      rcases hboxes d' b' h with ⟨rfl, rfl⟩ | ⟨hne, h⟩
      · simp only [S', if_true]; simp only [Sc.withC, Ctx.alloc]; rw [if_pos hsz.symm]
      · simp only [S']; rw [if_neg hne]; exact r1.boxκ d' b' h
    boxι := fun d' b' h id hid => by
      rcases hboxes d' b' h with ⟨rfl, rfl⟩ | ⟨hne, h⟩
      · simp only [S', if_true]
        have := r.heap.lt (id := id) hid
        simp only [Sc.withC, Ctx.alloc]
        omega
      · simp only [S']; rw [if_neg hne]; exact r1.boxι d' b' h id hid
    boxinj := fun d1 d2 b1 b2 h1 h2 e => by
      have hlam : ∀ d', d' ≠ d → S'.lam d' = S.lam d' := fun d' h => by simp only [S']; rw [if_neg h]
      have hlamd : S'.lam d = w.heap.size := by simp [S']
      rcases hboxes d1 b1 h1 with ⟨e1, _⟩ | ⟨hn1, k1⟩
      · rcases hboxes d2 b2 h2 with ⟨e2, _⟩ | ⟨hn2, k2⟩
        · rw [e1, e2]
        · rw [e1, hlamd, hlam d2 hn2] at e
          have := r.boxlt k2
          omega
      · rcases hboxes d2 b2 h2 with ⟨e2, _⟩ | ⟨hn2, k2⟩
        · rw [e2, hlamd, hlam d1 hn1] at e
          have := r.boxlt k1
          omega
        · rw [hlam d1 hn1, hlam d2 hn2] at e
          exact r.boxinj d1 d2 b1 b2 k1 k2 e
    boxbase := fun d' b' h => by
      rcases hboxes d' b' h with ⟨rfl, rfl⟩ | ⟨hne, h⟩
      · simp only [S', if_true]; have := r.baseLe; omega
      · simp only [S']; rw [if_neg hne]; exact r.boxbase d' b' h
    tokbase := r.tokbase
    mgd := r1.mgd }
theorem Rel.newBox {base : Bs} {S : Sc} {fr : Fr} {a : Act} (r : Rel base S fr a w) {d : Nat} {xs : Array Value} {el : TypeId} {b : Box} (hd : d < a.tmps.size) (hg : fr.any (SV.hasLoc d) = false)
    (hb : match b with | .plain cs => RepA S.c xs cs | .rich l => RepL S xs l ∧ l.any (SV.hasLoc d) = false | .arr _ _ => False) :
    ∃ S', S'.H = S.H ∧ Pres base S.c S.β S'.c S'.β ∧ Rel base S' ((fr.setBox d b).set d (.one (.loc d 0))) (a.put (some d) (.pointer (some ⟨w.heap.size, 0, none⟩))) (w.alloc (.cells xs el)) := by
  obtain ⟨S', h1, h2, core, h4, _, h6⟩ := r.newBox0 (el := el) (b := b) (xs := xs) (0, 0) hg (by
    cases b with
    | plain cs => exact hb
    | rich l => exact hb
    | arr sz es => exact hb.elim)
  refine ⟨S', h1, h2, core.put (dst := some d) (fun d' h => by simp at h; omega) ⟨?_, ?_⟩⟩
  · rw [h6]
    simp only [Fr.setBox]
    rw [look_ins]; simp
  · rw [h4]
end Go.Weave
end

section
/- New variables, literals and texts as bytes. -/
namespace Go.Weave
variable {P : Program} {w : World} {R : Type} {Q : R → Prop}

def Ctx.grow (c : Ctx) (o : Go.Obj) : Ctx := { c.alloc o none with n := c.n + 1, ι := fun id => if id = c.n then c.w.heap.size else c.ι id }

theorem Heap.cell_push {H : Heap} {o : Obj} {id off : Nat} (h : id < H.objs.length) : (H.push o).cell? id off = H.cell? id off := by
  simp only [Heap.cell?, Heap.push]
  rw [List.getElem?_append_left h]

/-- A managed object comes. -/
theorem Rel.newObj {base : Bs} {S : Sc} {fr : Fr} {a : Act} (r : Rel base S fr a w) {o : Obj} {go : Go.Obj} {β' : Owner → Option Nat}
    (hβ : ∀ ow, (∀ j, ow ≠ .cell S.c.n j) → β' ow = S.β ow) (hB : BRel (S.c.grow go) β') (hO : ObjOK (S.c.grow go) β' S.c.n o) (hb : ∀ j b, β' (.cell S.c.n j) = some b → base.ok b) :
    Rel base { S with c := S.c.grow go, β := β', H := S.H.push o } fr a (w.alloc go) ∧ Pres base S.c S.β (S.c.grow go) β' := by
  have hle : S.c.le (S.c.grow go) := ⟨Nat.le_succ _, fun id h => by simp only [Ctx.grow]; rw [if_neg (by omega)], (Ctx.le_alloc (o := go) (k := none) r.own.lim).κ⟩
  have hold : ∀ b, b < S.c.w.heap.size → (S.c.grow go).w.heap[b]? = S.c.w.heap[b]? := fun b h => alloc_old h
  have hκ : ∀ b, b < S.c.w.heap.size → (S.c.grow go).κ b = S.c.κ b := fun b h => by simp only [Ctx.grow, Ctx.alloc]; rw [if_neg (by omega)]
  have hk : ∀ ow b, S.β ow = some b → (S.c.grow go).κ b = S.c.κ b ∧ (S.c.grow go).w.heap[b]? = S.c.w.heap[b]? := fun ow b h => by
    obtain ⟨_, _, hh⟩ := r.own.blk ow b h
    exact ⟨hκ b (lt_of_heap hh), hold b (lt_of_heap hh)⟩
  have hcell : ∀ id off, id < S.c.n → (S.c.grow go).w.cell? ⟨S.c.ι id, off, none⟩ = S.c.w.cell? ⟨S.c.ι id, off, none⟩ := fun id off h => cell_of_heap (hold _ (r.heap.lt h))
  have hm : ∀ v s, RepS S v s → RepS { S with c := S.c.grow go, β := β', H := S.H.push o } v s := fun v s h => by
    have h1 := RepS.move hle hk hcell h
    cases s with
    | unk => trivial
    | val x => exact h1
    | own g sz es => exact ⟨h1.1, by simp only; rw [hβ _ (fun j => by simp)]; exact h1.2⟩
    | bor id off sz es =>
      refine ⟨h1.1, h1.2.1, fun x hx => ?_⟩
      simp only at hx
      rw [Heap.cell_push (by rw [← r.heap.n]; exact h.2.1)] at hx
      exact h1.2.2 x hx
    | loc d off => exact h1
    | lsl d => exact h1
  have hι : ∀ id, id < S.c.n → (S.c.grow go).ι id = S.c.ι id := fun id h => hle.ι id h
  have hιn : (S.c.grow go).ι S.c.n = S.c.w.heap.size := by simp [Ctx.grow]
  refine ⟨{
    w := by simp only [Ctx.grow, Ctx.alloc]; rw [r.w]
    defers := r.defers
    heap := {
      n := by simp [Ctx.grow, Heap.push, r.heap.n]
      obj := fun id o' ho => by
        simp only [Heap.push] at ho
        by_cases hid : id < S.H.objs.length
        · rw [List.getElem?_append_left hid] at ho
          have hid' : id < S.c.n := by rw [r.heap.n]; exact hid
          have h0 := ObjOK.move hle hk hid' (hold _ (r.heap.lt hid')) (r.heap.obj id o' ho)
          unfold ObjOK at h0 ⊢
          cases o' with
          | cells hs =>
            obtain ⟨xs, el, h1, h2, h3⟩ := h0
            exact ⟨xs, el, h1, h2, fun j hj => by
              simp only
              rw [hβ _ (fun j' e => by cases e; omega)]
              exact h3 j hj⟩
          | map kt es ck => exact h0
        · have hid' : id = S.H.objs.length := by
            have := (List.getElem?_eq_some_iff.1 ho).1
            simp at this; omega
          subst hid'
          simp at ho
          subst ho
          rw [← r.heap.n]
          exact hO
      κ := fun id hid => by
        simp only [Ctx.grow] at hid
        by_cases e : id = S.c.n
        · subst e; rw [hιn]; simp [Ctx.grow, Ctx.alloc]
        · have : id < S.c.n := by omega
          rw [hι id this, hκ _ (r.heap.lt this)]
          exact r.heap.κ id this
      inj := fun id id' h1 h2 e => by
        simp only [Ctx.grow] at h1 h2
        by_cases e1 : id = S.c.n
        · by_cases e2 : id' = S.c.n
          · omega
          · have h2' : id' < S.c.n := by omega
            rw [e1, hιn, hι id' h2'] at e
            have := r.heap.lt h2'
            omega
        · have h1' : id < S.c.n := by omega
          by_cases e2 : id' = S.c.n
          · rw [e2, hιn, hι id h1'] at e
            have := r.heap.lt h1'
            omega
          · have h2' : id' < S.c.n := by omega
            rw [hι id h1', hι id' h2'] at e
            exact r.heap.inj id id' h1' h2' e }
    own := hB
    baseLe := by simp only [Ctx.grow, Ctx.alloc, World.size_alloc]; have := r.baseLe; omega
    bx := r.bx
    env := fun s e he => RepE.map hm (r.env s e he)
    box := fun d b hb' => by
      have h0 := r.box d b hb'
      unfold BoxOK at h0 ⊢
      cases b with
      | plain cs =>
        obtain ⟨xs, el, h1, h2⟩ := h0
        exact ⟨xs, el, by rw [hold _ (lt_of_heap h1)]; exact h1, RepA.mono hle h2⟩
      | rich l =>
        obtain ⟨xs, el, h1, h2⟩ := h0
        exact ⟨xs, el, by rw [hold _ (lt_of_heap h1)]; exact h1, RepL.map hm h2⟩
      | arr sz es =>
        obtain ⟨xs, el, h1, h2, h3⟩ := h0
        exact ⟨xs, el, by rw [hold _ (lt_of_heap h1)]; exact h1, h2.mono hle, h3⟩
    boxκ := fun d b hb' => by rw [hκ _ (r.boxlt hb')]; exact r.boxκ d b hb'
    boxι := fun d b hb' id hid => by
      simp only [Ctx.grow] at hid
      by_cases e : id = S.c.n
      · subst e; rw [hιn]; have := r.boxlt hb'; simp only; omega
      · rw [hι id (by omega)]; exact r.boxι d b hb' id (by omega)
    boxinj := r.boxinj
    boxbase := r.boxbase
    tokbase := fun g b h => by simp only at h; rw [hβ _ (fun j => by simp)] at h; exact r.tokbase g b h
    mgd := fun b h => ?_ }, hle, by simp [Ctx.grow, Ctx.alloc], fun b hb' => ⟨hold b (by have := Bs.lt hb'; have := r.baseLe; omega), hκ b (by have := Bs.lt hb'; have := r.baseLe; omega)⟩, ⟨rfl, rfl⟩⟩
  rcases h with ⟨id, hid, rfl⟩ | ⟨id, j, h⟩
  · simp only [Ctx.grow] at hid
    by_cases e : id = S.c.n
    · subst e; simp only [hιn]; exact .inl r.baseLe
    · simp only [hι id (by omega)]
      exact r.mgd _ (.inl ⟨id, by omega, rfl⟩)
  · by_cases e : id = S.c.n
    · subst e; exact hb j b h
    · simp only at h
      rw [hβ _ (fun j' e' => by cases e'; exact e rfl)] at h
      exact r.mgd _ (.inr ⟨id, j, h⟩)

theorem KeysOk.push {H : Heap} {cs : List HCell} (h : KeysOk P H) : KeysOk P (H.push (.cells cs)) := by
  intro id kt es c ho
  simp only [Heap.push] at ho
  by_cases hid : id < H.objs.length
  · rw [List.getElem?_append_left hid] at ho; exact h id kt es c ho
  · rw [List.getElem?_append_right (by omega)] at ho
    cases hk : id - H.objs.length with
    | zero => simp [hk] at ho
    | succ n => simp [hk] at ho

theorem cells_ite {ag : Bool} {n : Nat} {v : AVal} (h : (bif ag then v.isAggOf n else !v.isAgg) = true) : (bif ag then v.cells else [v]) = v.cells := by
  cases ag
  · simp only [cond_false] at h ⊢
    cases v <;> first | rfl | simp [AVal.isAgg] at h
  · rfl

theorem BRel.grow {c : Ctx} {β : Owner → Option Nat} {go : Go.Obj} (h : BRel c β) : BRel (c.grow go) β :=
  ⟨fun o b hb => by
    obtain ⟨xs, el, hg⟩ := h.blk o b hb
    exact ⟨xs, el, by rw [show (c.grow go).w.heap[b]? = c.w.heap[b]? from alloc_old (lt_of_heap hg)]; exact hg⟩, fun o b hb => by
    obtain ⟨xs, el, hg⟩ := h.blk o b hb
    have := lt_of_heap hg
    simp only [Ctx.grow, Ctx.alloc]
    rw [if_neg (by omega)]
    exact h.κ o b hb, h.inj, fun b l hk => by
    simp only [Ctx.grow, Ctx.alloc] at hk ⊢
    split at hk
    · simp at hk
    · have := h.lim b l hk; simp; omega, fun id o b hb => Nat.lt_succ_of_lt (h.cl id o b hb)⟩

theorem hcellOf_spec {s : SV} {p : HCell × Option Nat} (h : hcellOf s = some p) :
    (∃ v, s = .val v ∧ v.isAgg = false ∧ p = (.val v, none)) ∨ (∃ g sz es, s = .own g sz es ∧ p = (.own sz es, some g)) ∨ (∃ id off sz es, s = .bor id off sz es ∧ p = (.val (.sl false sz es), none)) := by
  cases s with
  | unk => simp [hcellOf] at h
  | val v =>
    simp only [hcellOf] at h
    cases hv : v.isAgg <;> simp only [hv, cond_true, cond_false, Option.some.injEq, reduceCtorEq] at h
    exact .inl ⟨v, rfl, hv, h.symm⟩
  | own g sz es => simp only [hcellOf, Option.some.injEq] at h; exact .inr (.inl ⟨g, sz, es, rfl, h.symm⟩)
  | bor id off sz es => simp only [hcellOf, Option.some.injEq] at h; exact .inr (.inr ⟨id, off, sz, es, rfl, h.symm⟩)
  | loc d off => simp [hcellOf] at h
  | lsl d => simp [hcellOf] at h

theorem grow_ptr {c : Ctx} {go : Go.Obj} : Rep (c.grow go) (.pointer (some ⟨c.w.heap.size, 0, none⟩)) (.obj c.n 0) := by
  have := Rep.obj (c := c.grow go) c.n 0 (Nat.lt_succ_self _)
  have e : (c.grow go).ι c.n = c.w.heap.size := by simp [Ctx.grow]
  rw [e] at this
  exact this

theorem cells_one {v : Value} (h : Cellv v) : v.cells = #[v] := by cases v <;> first | rfl | exact absurd h (by simp [Value.oneCell'])

theorem newK_ok {base : Bs} {S : Sc} {fr : Fr} {a : Act} {A : Ann} {t : TypeId} {dst : Option Nat} {vx : Value} {x : EV} {K : Fr → Heap → Tr R} (r : Rel base S fr a w) (hko : KeysOk P S.H)
    (hd : ∀ d, dst = some d → d < a.tmps.size) (rx : RepE S vx x) (h : (newK P A dst t x fr S.H K).All Q) :
    ∃ S' fr', Pres base S.c S.β S'.c S'.β ∧ Rel base S' fr' (a.put dst (.pointer (some ⟨w.heap.size, 0, none⟩))) (w.alloc (.cells vx.cells t)) ∧ KeysOk P S'.H ∧ (K fr' S'.H).All Q := by
  unfold newK at h
  split at h
  · exact h.elim
  · rename_i d
    have hd' := hd d rfl
    have hsz : S.c.w.heap.size = w.heap.size := by rw [r.w]
    cases hfz : A.frz.contains d <;> simp only [hfz, cond_true, cond_false] at h
    rotate_left
    · obtain ⟨v, hv, h⟩ := all_optK h
      obtain ⟨hb, h⟩ := all_bif h
      have hA := Rep.cells (RepE.toA rx hv)
      have hle : S.c.le (S.c.alloc (.cells vx.cells t) (some v.cells.length)) := Ctx.le_alloc r.own.lim
      have hw : (S.c.alloc (.cells vx.cells t) (some v.cells.length)).w = w.alloc (.cells vx.cells t) := by simp only [Ctx.alloc]; rw [r.w]
      have hag : v.isAgg = aggT P t := by
        cases ha : aggT P t <;> simp only [ha, cond_true, cond_false] at hb
        · simpa using hb
        · exact (isAggOf_spec hb).2.2
      have hrep : Rep (S.c.alloc (.cells vx.cells t) (some v.cells.length)) (.pointer (some ⟨w.heap.size, 0, none⟩)) (.elt v (aggT P t) v.cells.length 0) := by
        have := Rep.elt (c := S.c.alloc (.cells vx.cells t) (some v.cells.length)) w.heap.size 0 0 v.cells.length v (aggT P t) v.cells.length (fun j => vx.cells.getD j undef)
          (by simp only [Ctx.alloc]; rw [if_pos hsz.symm]) (by omega) rfl hag (fun x hx => by
            obtain ⟨j, hj, rfl⟩ := List.getElem_of_mem hx
            have := (hA.2 j hj).2
            simpa [hj] using this)
          (fun j hj => by
            have hlt : j < vx.cells.size := by rw [hA.1]; exact hj
            rw [hw]
            unfold World.cell?
            simp only [alloc_new]
            simp [hlt]) (fun j hj => Rep.mono hle (hA.2 j hj).1)
        simpa using this
      refine ⟨_, _, Pres.alloc r.own.lim r.baseLe, (r.alloc (.cells vx.cells t) (some v.cells.length)).put (dst := some d) (e := .one (.val (.elt v (aggT P t) v.cells.length 0))) hd hrep, hko, h⟩
    split at h
    · obtain ⟨v, hv, h⟩ := all_optK h
      obtain ⟨hb, h⟩ := all_bif h
      simp only [Bool.and_eq_true, Bool.not_eq_true'] at hb
      rw [cells_ite hb.1] at h
      obtain ⟨S', e, hp, hr⟩ := r.newBox (el := t) (b := .plain v.cells) hd' hb.2 (Rep.cells (RepE.toA rx hv))
      exact ⟨S', _, hp, hr, by rw [e]; exact hko, by rw [e]; exact h⟩
    · cases hb : (fr.any (SV.hasLoc d) || x.any (SV.hasLoc d)) <;> simp only [hb, cond_true, cond_false] at h
      · simp only [Bool.or_eq_false_iff] at hb
        split at h
        · rename_i l
          obtain ⟨_, h⟩ := all_bif h
          obtain ⟨xs, rfl, hl⟩ := rx
          obtain ⟨S', e, hp, hr⟩ := r.newBox (el := t) (b := .rich l) hd' hb.1 ⟨hl, hb.2⟩
          exact ⟨S', _, hp, hr, by rw [e]; exact hko, by rw [e]; exact h⟩
        · rename_i l
          obtain ⟨_, h⟩ := all_bif h
          have hl := RepA.toL (Rep.cells (show Rep S.c vx (.agg l) from rx))
          obtain ⟨S', e, hp, hr⟩ := r.newBox (el := t) (b := .rich (l.map .val)) hd' hb.1 ⟨hl, by simp [SV.hasLoc]⟩
          exact ⟨S', _, hp, hr, by rw [e]; exact hko, by rw [e]; exact h⟩
        · exact h.elim
        · rename_i s hs1 hs2
          cases ha : aggT P t <;> simp only [ha, cond_true, cond_false] at h
          · cases hag : (s.toA.getD .nilp).isAgg <;> simp only [hag, cond_true, cond_false] at h
            · have hone : Cellv vx := RepS.one (S := S) (s := s) rx (fun e => hs2 (by rw [e])) (fun l e => hs1 l (by rw [e]))
              have hl : RepL S vx.cells [s] := by
                rw [cells_one hone]
                refine ⟨rfl, fun j hj => ?_⟩
                have : j = 0 := Nat.lt_one_iff.1 hj
                subst this
                exact ⟨rx, hone⟩
              obtain ⟨S', e, hp, hr⟩ := r.newBox (el := t) (b := .rich [s]) hd' hb.1 ⟨hl, by simpa [EV.any, CV.any] using hb.2⟩
              exact ⟨S', _, hp, hr, by rw [e]; exact hko, by rw [e]; exact h⟩
            · exact h.elim
          · exact h.elim
        · exact h.elim
      · exact h.elim
    · have hlen : S.H.objs.length = S.c.n := r.heap.n.symm
      have hnew : ∀ go, (S.c.grow go).w.heap[(S.c.grow go).ι S.c.n]? = some go := fun go => by
        simp only [Ctx.grow, if_true]
        exact alloc_new
      have hle : ∀ go, S.c.le (S.c.grow go) := fun go => ⟨Nat.le_succ _, fun id h => by simp only [Ctx.grow]; rw [if_neg (by omega)], (Ctx.le_alloc (o := go) (k := none) r.own.lim).κ⟩
      have hnone : ∀ j, S.β (.cell S.c.n j) = none := fun j => by
        cases hj : S.β (.cell S.c.n j) with
        | none => rfl
        | some b => have := r.own.cl _ _ _ hj; omega
      -- a cell of plain data
      have vals : ∀ (l : List AVal), RepA S.c vx.cells l → (K (fr.set d (.one (.val (.obj S.H.objs.length 0)))) (S.H.push (.cells (l.map .val)))).All Q →
          ∃ S' fr', Pres base S.c S.β S'.c S'.β ∧ Rel base S' fr' (a.put (some d) (.pointer (some ⟨w.heap.size, 0, none⟩))) (w.alloc (.cells vx.cells t)) ∧ KeysOk P S'.H ∧ (K fr' S'.H).All Q := fun l hl h => by
        obtain ⟨h1, h2⟩ := r.newObj (o := .cells (l.map .val)) (go := .cells vx.cells t) (β' := S.β) (fun _ _ => rfl) r.own.grow ⟨vx.cells, t, hnew _, by simpa using hl.1, fun j hj => by
          have hj' : j < l.length := by simpa using hj
          have e : (l.map HCell.val).getD j (.val .undef) = .val (l.getD j .undef) := by simp [hj']
          rw [e]
          exact ⟨Rep.mono (hle _) (hl.2 j hj').1, (hl.2 j hj').2⟩⟩ (fun j b hb => by rw [hnone] at hb; cases hb)
        refine ⟨_, _, h2, h1.put (dst := some d) (e := .one (.val (.obj S.H.objs.length 0))) hd ?_, hko.push, h⟩
        rw [hlen, ← hsz]
        exact grow_ptr
      cases ha : aggT P t <;> simp only [ha, cond_true, cond_false] at h
      · split at h
        · rename_i s
          obtain ⟨p, hp, h⟩ := all_optK h
          rcases hcellOf_spec hp with ⟨v, rfl, hv, rfl⟩ | ⟨g, sz, es, rfl, rfl⟩ | ⟨id, off, sz, es, rfl, rfl⟩
          · refine vals [v] ?_ h
            have := Rep.cells (show Rep S.c vx v from rx)
            have e : v.cells = [v] := by cases v <;> first | rfl | simp [AVal.isAgg] at hv
            rw [e] at this
            exact this
          · -- an owned slice
            simp only [stripO] at h
            have r1 := r.strip g
            have hv : Cellv vx := Rep.cellv rx.1 rfl
            have hgo : Go.Obj.cells vx.cells t = .cells #[vx] t := by rw [cells_one hv]
            rw [hgo]
            let β1 : Owner → Option Nat := upd S.β (.tok g) none
            let β' : Owner → Option Nat := upd β1 (.cell S.c.n 0) (S.β (.tok g))
            have hβ' : ∀ ow, (∀ j, ow ≠ .cell S.c.n j) → β' ow = β1 ow := fun ow h => upd_ne (h 0)
            have hB : BRel (S.c.grow (.cells #[vx] t)) β' := by
              have hB1 : BRel (S.c.grow (.cells #[vx] t)) β1 := (r.own.drop _).grow
              cases hg : S.β (.tok g) with
              | none =>
                have : β' = upd β1 (.cell S.c.n 0) none := by simp [β', hg]
                rw [this]
                exact hB1.drop _
              | some b =>
                have : β' = upd β1 (.cell S.c.n 0) (some b) := by simp [β', hg]
                rw [this]
                obtain ⟨xs, el, hh⟩ := r.own.blk _ _ hg
                refine hB1.give ⟨xs, el, ?_⟩ ?_ (fun o' ho' => ?_) (fun id j e => by cases e; exact Nat.lt_succ_self _)
                · rw [show (S.c.grow (.cells #[vx] t)).w.heap[b]? = S.c.w.heap[b]? from alloc_old (lt_of_heap hh)]; exact hh
                · have := lt_of_heap hh
                  simp only [Ctx.grow, Ctx.alloc]
                  rw [if_neg (by omega)]
                  exact r.own.κ _ _ hg
                · by_cases e : o' = .tok g
                  · subst e; simp [β1, upd] at ho'
                  · simp only [β1] at ho'
                    rw [upd_ne e] at ho'
                    exact e (r.own.inj _ _ _ ho' hg)
            obtain ⟨h1, h2⟩ := r1.newObj (o := .cells [.own sz es]) (go := .cells #[vx] t) (β' := β') hβ' hB ⟨#[vx], t, hnew _, rfl, fun j hj => by
              have : j = 0 := Nat.lt_one_iff.1 hj
              subst this
              refine ⟨Rep.mono (hle _) rx.1, ?_⟩
              simp only [β', upd_eq]
              exact rx.2.move (fun b hb => by
                obtain ⟨_, _, hh⟩ := r.own.blk _ _ hb
                have := lt_of_heap hh
                refine ⟨?_, alloc_old this⟩
                simp only [Ctx.grow, Ctx.alloc]
                rw [if_neg (by omega)])⟩ (fun j b hb => by
              by_cases e : j = 0
              · subst e; simp only [β', upd_eq] at hb; exact r.tokbase g b hb
              · have hne : Owner.cell S.c.n j ≠ .cell S.c.n 0 := fun h => by cases h; exact e rfl
                simp only [β', β1] at hb
                rw [upd_ne hne, upd_ne (fun h => by cases h)] at hb
                have := r.own.cl _ _ _ hb
                omega)
            refine ⟨_, _, ?_, h1.put (dst := some d) (e := .one (.val (.obj S.H.objs.length 0))) hd ?_, hko.push, h⟩
            · exact Pres.trans (Pres.refl base S.c S.β S.β) h2
            · rw [hlen]
              rw [← hsz]
              exact grow_ptr
          · refine vals [.sl false sz es] ?_ h
            exact Rep.cells (show Rep S.c vx (.sl false sz es) from rx.1)
        · exact h.elim
      · obtain ⟨v, hv, h⟩ := all_optK h
        obtain ⟨hb, h⟩ := all_bif h
        exact vals v.cells (Rep.cells (RepE.toA rx hv)) h
end Go.Weave
end

section
/- Slices that are made, and append. -/
namespace Go.Weave
variable {P : Program} {w : World} {R : Type} {Q : R → Prop}

theorem Flat.rep_slice {c : Ctx} {xs : Array Value} {sz : Nat} {es : List AVal} {b cap lim : Nat} {el : TypeId} {fz : Nat × Nat} {full : Bool} (h : Flat c xs sz es) (hg : c.w.heap[b]? = some (.cells xs el fz))
    (hk : c.κ b = some lim) (hl : es.length * cnt sz ≤ lim) (hc : es.length ≤ cap) (hf : full = true → cap = es.length) : Rep c (.slice (some ⟨b, 0, none⟩) es.length cap) (.sl full sz es) :=
  .sl b 0 cap lim full sz es (fun i j => xs.getD (i * cnt sz + j) undef) hc hf hk (by omega) h.ok (fun i j hi hj => by
    rw [Nat.zero_add]
    exact cellsAt hg (by have := cell_lt hi hj; have := h.len; omega)) h.rep

/-- A new row. -/
theorem Rel.newRow {base : Bs} {S : Sc} {fr : Fr} {a : Act} (r : Rel base S fr a w) {xs : Array Value} {sz : Nat} {es : List AVal} (el : TypeId) (h : Flat S.c xs sz es) :
    ∃ c', Rel base (S.withC c') fr a (w.alloc (.cells xs el)) ∧ Pres base S.c S.β c' S.β ∧ S.c.le c' ∧ c'.w = w.alloc (.cells xs el) ∧
      c'.κ w.heap.size = some (es.length * cnt sz) ∧ (∀ o, S.β o ≠ some w.heap.size) ∧
      ∀ cap full, es.length ≤ cap → (full = true → cap = es.length) → Rep c' (.slice (some ⟨w.heap.size, 0, none⟩) es.length cap) (.sl full sz es) := by
  have hsz : S.c.w.heap.size = w.heap.size := by rw [r.w]
  have hle : S.c.le (S.c.alloc (.cells xs el) (some (es.length * cnt sz))) := Ctx.le_alloc r.own.lim
  have hw : (S.c.alloc (.cells xs el) (some (es.length * cnt sz))).w = w.alloc (.cells xs el) := by simp only [Ctx.alloc]; rw [r.w]
  have hk : (S.c.alloc (.cells xs el) (some (es.length * cnt sz))).κ w.heap.size = some (es.length * cnt sz) := by simp only [Ctx.alloc]; rw [if_pos hsz.symm]
  refine ⟨S.c.alloc (.cells xs el) (some (es.length * cnt sz)), r.alloc _ _, Pres.alloc r.own.lim r.baseLe, hle, hw, hk, fun o ho => ?_, fun cap full hc hf => ?_⟩
  · obtain ⟨_, _, hh⟩ := r.own.blk _ _ ho
    have := lt_of_heap hh
    omega
  · exact (h.mono hle).rep_slice (el := el) (fz := (0, 0)) (by rw [hw]; exact alloc_new) hk (Nat.le_refl _) hc hf

/-! ### Literals -/
theorem okEl_of {P : Program} {e : TypeId} (hel : elOk P e = true) {v : AVal} {c : Ctx} {x : Value} (r : Rep c x v) (h : (bif aggT P e then v.isAggOf (szOf P e) else !v.isAgg) = true) : okEl (shp P e) v := by
  obtain ⟨hpos, hcnt⟩ := elOk_spec hel
  have hc := Rep.cells r
  refine ⟨?_, ?_, fun y hy => ?_⟩
  · rw [shp_agg]
    cases ha : aggT P e <;> simp only [ha, cond_true, cond_false] at h
    · simpa using h
    · exact (isAggOf_spec h).2.2
  · rw [hcnt]
    cases ha : aggT P e <;> simp only [ha, cond_true, cond_false] at h
    · have e1 : v.cells = [v] := by cases v <;> first | rfl | simp [AVal.isAgg] at h
      rw [e1]
      simp only [elOk, ha, Bool.false_or, Bool.and_eq_true, decide_eq_true_eq, beq_iff_eq] at hel
      simp [hel.1.2]
    · exact (isAggOf_spec h).2.1
  · obtain ⟨j, hj, rfl⟩ := List.getElem_of_mem hy
    have := (hc.2 j hj).2
    simpa [hj] using this

theorem div_cell {i i' j j' k : Nat} (hj : j < k) (hj' : j' < k) (h : i * k + j = i' * k + j') : i = i' ∧ j = j' := by
  have hk : 0 < k := by omega
  have h1 : (i * k + j) / k = i := by
    rw [Nat.mul_comm, Nat.mul_add_div hk, Nat.div_eq_of_lt hj]; rfl
  have h2 : (i' * k + j') / k = i' := by
    rw [Nat.mul_comm, Nat.mul_add_div hk, Nat.div_eq_of_lt hj']; rfl
  rw [h] at h1
  have : i = i' := by omega
  subst this
  exact ⟨rfl, by omega⟩

theorem Flat.set {c : Ctx} {xs ys zs : Array Value} {sz : Nat} {es : List AVal} {i : Nat} {v : AVal} (h : Flat c xs sz es) (hx : xs.size = es.length * cnt sz) (hi : i < es.length) (hv : okEl sz v) (hr : RepA c ys v.cells)
    (hz : zs.toList = spliceAt (i * cnt sz) ys.toList xs.toList) : Flat c zs sz (es.set i v) ∧ zs.size = es.length * cnt sz := by
  have hlen : ys.toList.length = cnt sz := by rw [Array.length_toList, hr.1, hv.2.1]
  have hfit : i * cnt sz + ys.toList.length ≤ xs.toList.length := by
    rw [hlen, Array.length_toList, hx]
    have : (i + 1) * cnt sz ≤ es.length * cnt sz := Nat.mul_le_mul_right _ hi
    rw [Nat.succ_mul] at this
    exact this
  have hzs : zs.size = es.length * cnt sz := by
    rw [← Array.length_toList, hz, spliceAt_length hfit, Array.length_toList, hx]
  refine ⟨⟨by simp [hzs], fun e he => ?_, fun i' j hi' hj => ?_⟩, hzs⟩
  · rcases List.mem_or_eq_of_mem_set he with he | rfl
    · exact h.ok e he
    · exact hv
  · simp only [List.length_set] at hi'
    rw [arr_getD, hz, spliceAt_getD _ hfit, hlen]
    by_cases e : i' = i
    · subst e
      rw [if_pos ⟨by omega, by omega⟩]
      have e2 : i' * cnt sz + j - i' * cnt sz = j := by omega
      have e3 : (es.set i' v).getD i' .undef = v := by simp [hi]
      rw [e2, e3, ← arr_getD]
      exact (hr.2 j (by rw [hv.2.1]; exact hj)).1
    · rw [if_neg (fun hh => ?_)]
      · have e3 : (es.set i v).getD i' .undef = es.getD i' .undef := by
          simp only [List.getD_eq_getElem?_getD]
          rw [List.getElem?_set_ne (fun h => e h.symm)]
        rw [e3, ← arr_getD]
        exact h.rep i' j hi' hj
      · have hlt : i' * cnt sz + j - i * cnt sz < cnt sz := by omega
        have := div_cell (i := i') (i' := i) hj hlt (by omega)
        exact e this.1

theorem elems_ok {S : Sc} {e : TypeId} (hel : elOk P e = true) : ∀ (ps : List (Nat × AVal)) (es : List (Nat × EV)) (vs : List (Nat × Value)) (l : List AVal) (xs : Array Value) (out : List AVal),
    toAs es = some ps → RepP S vs es → Flat S.c xs (shp P e) l → xs.size = l.length * cnt (shp P e) → elemsOf (aggT P e) (szOf P e) l ps = some out →
    ∃ ys, Instr.fill (fun i => some (i * szOf P e, szOf P e)) xs vs = some ys ∧ Flat S.c ys (shp P e) out ∧ ys.size = out.length * cnt (shp P e) ∧ out.length = l.length
  | [], es, vs, l, xs, out, he, hp, hr, hx, h => by
    cases es with
    | nil =>
      cases vs with
      | nil => simp only [elemsOf, Option.some.injEq] at h; subst h; exact ⟨xs, rfl, hr, hx, rfl⟩
      | cons v vs => exact hp.elim
    | cons e es =>
      obtain ⟨i, x⟩ := e
      simp only [toAs] at he
      split at he <;> simp at he
  | p :: ps, es, vs, l, xs, out, he, hp, hr, hx, h => by
    obtain ⟨hpos, hcnt⟩ := elOk_spec hel
    cases es with
    | nil => simp [toAs] at he
    | cons e' es =>
      obtain ⟨i, x⟩ := e'
      cases vs with
      | nil => exact hp.elim
      | cons v vs =>
        obtain ⟨i', v⟩ := v
        obtain ⟨rfl, rv, hp⟩ := hp
        simp only [toAs] at he
        split at he
        · rename_i a m ha hm
          simp only [Option.some.injEq, List.cons.injEq] at he
          obtain ⟨rfl, rfl⟩ := he
          simp only [elemsOf] at h
          cases hb : ((bif aggT P e then a.isAggOf (szOf P e) else !a.isAgg) && decide (i' < l.length)) <;> simp only [hb, cond_true, cond_false, reduceCtorEq] at h
          simp only [Bool.and_eq_true, decide_eq_true_eq] at hb
          have ra := RepE.toA rv ha
          have hok := okEl_of hel ra hb.1
          have rc := Rep.cells ra
          have hfit : i' * szOf P e + szOf P e ≤ xs.size := by
            rw [hx, hcnt]
            have : (i' + 1) * szOf P e ≤ l.length * szOf P e := Nat.mul_le_mul_right _ hb.2
            rw [Nat.succ_mul] at this
            exact this
          have hvs : v.cells.size = szOf P e := by rw [rc.1, hok.2.1, hcnt]
          have f1 := fill_one (off := i' * szOf P e) (v := v) (cells := xs) hvs hfit
          have f2 := hr.set (i := i') (v := a) hx hb.2 hok rc (zs := v.cells.zipIdx.foldl (fun cs (p : Value × Nat) => cs.setIfInBounds (i' * szOf P e + p.2) p.1) xs) (by rw [hcnt]; exact f1.2)
          obtain ⟨ys, hy, hr', hx', hl'⟩ := elems_ok hel m es vs (l.set i' a) _ out hm hp f2.1 (by simpa using f2.2) h
          refine ⟨ys, ?_, hr', hx', by simpa using hl'⟩
          simp only [Instr.fill]
          rw [if_neg f1.1]
          exact hy
        · simp at he

theorem buildSlice_run {S : Sc} {t : TypeId} {len : Nat} {es : List (Nat × EV)} {vs : Array (Nat × Value)} {K : EV → Tr R} (hp : RepP S vs.toList es)
    (h : (buildSliceK P t len es K).All Q) :
    ∃ xs e out, (Instr.buildSlice t len vs).run P w = .ok (.slice (some ⟨w.heap.size, 0, none⟩) len len) (w.alloc (.cells xs e)) ∧ Flat S.c xs (shp P e) out ∧ out.length = len ∧ xs.size = len * cnt (shp P e) ∧
      (K (.one (.val (.sl true (shp P e) out)))).All Q := by
  unfold buildSliceK at h
  split at h
  · rename_i e hu
    obtain ⟨hb, h⟩ := all_bif h
    simp only [Bool.and_eq_true, decide_eq_true_eq] at hb
    obtain ⟨hel, hmax⟩ := hb
    obtain ⟨hpos, hcnt⟩ := elOk_spec hel
    obtain ⟨z, hz, h⟩ := all_optK h
    obtain ⟨hzb, h⟩ := all_bif h
    obtain ⟨ps, hps, h⟩ := all_optK h
    obtain ⟨out, hout, h⟩ := all_optK h
    obtain ⟨zv, hzr, hzz⟩ := run_zero (w := w) hz S.c
    have hzok := okEl_of hel hzz hzb
    have hzc := Rep.cells hzz
    have hzs : zv.cells.size = szOf P e := by rw [hzc.1, hzok.2.1, hcnt]
    -- the row of zeros
    have hrow : ∀ zs : Array Value, (len * szOf P e ≠ 0 → zs = zv.cells) → Flat S.c ((Array.range (len * szOf P e)).map (zs[· % zs.size]!)) (shp P e) (List.replicate len z) ∧
        ((Array.range (len * szOf P e)).map (zs[· % zs.size]!)).size = (List.replicate len z).length * cnt (shp P e) := fun zs hzs' => by
      refine ⟨⟨by simp [hcnt], fun x hx => ?_, fun i j hi hj => ?_⟩, by simp [hcnt]⟩
      · rw [List.eq_of_mem_replicate hx]; exact hzok
      · rw [hcnt] at hj ⊢
        simp only [List.length_replicate] at hi
        have hlt : i * szOf P e + j < len * szOf P e := cell_lt hi hj
        have hz2 := hzs' (by omega)
        subst hz2
        have e1 : (List.replicate len z).getD i .undef = z := by simp [hi]
        have hmod : (i * szOf P e + j) % szOf P e = j := by
          rw [Nat.mul_comm, Nat.mul_add_mod, Nat.mod_eq_of_lt hj]
        have e2 : ((Array.range (len * szOf P e)).map (zv.cells[· % zv.cells.size]!)).getD (i * szOf P e + j) undef = zv.cells.getD j undef := by
          simp [hlt, hzs, hmod, hj]
        rw [e1, e2]
        exact (hzc.2 j (by rw [hzok.2.1, hcnt]; exact hj)).1
    have fin : ∀ zs : Array Value, ((len * szOf P e = 0 ∧ zs = #[]) ∨ (len * szOf P e ≠ 0 ∧ zs = zv.cells)) →
        ∃ xs e out, (Instr.buildSlice t len vs).run P w = .ok (.slice (some ⟨w.heap.size, 0, none⟩) len len) (w.alloc (.cells xs e)) ∧ Flat S.c xs (shp P e) out ∧ out.length = len ∧ xs.size = len * cnt (shp P e) ∧
          (K (.one (.val (.sl true (shp P e) out)))).All Q := fun zs hzs' => by
      obtain ⟨f1, f2⟩ := hrow zs (fun hh => by
        rcases hzs' with ⟨h0, _⟩ | ⟨_, h0⟩
        · exact absurd h0 hh
        · exact h0)
      obtain ⟨ys, hy, hf, hyz, hl⟩ := elems_ok hel ps es vs.toList _ _ out hps hp f1 f2 hout
      have hl' : out.length = len := by simpa using hl
      refine ⟨ys, e, out, ?_, hf, hl', by rw [hyz, hl'], h⟩
      · have hnot : ¬ len * szOf P e > 2 ^ 24 := by
          have : (2 : Nat) ^ 24 = 16777216 := by decide
          omega
        unfold Instr.buildSlice
        simp only [Sem.run_bind, run_underlying hu, Result.andThen_ok, run_size0 hpos, if_neg hnot]
        rcases hzs' with ⟨h0, rfl⟩ | ⟨h0, rfl⟩
        · rw [if_pos h0]
          simp only [Sem.run_bind, Sem.run_pure, Result.andThen_ok]
          rw [hy]
          rfl
        · rw [if_neg h0]
          simp only [Sem.run_bind, Sem.run_pure, Result.andThen_ok, hzr]
          rw [hy]
          rfl
    by_cases h0 : len * szOf P e = 0
    · exact fin #[] (.inl ⟨h0, rfl⟩)
    · exact fin zv.cells (.inr ⟨h0, rfl⟩)
  · exact h.elim
theorem buildSliceK_ok {base : Bs} {S : Sc} {fr : Fr} {a : Act} {t : TypeId} {len : Nat} {es : List (Nat × EV)} {vs : Array (Nat × Value)} {K : EV → Tr R} (r : Rel base S fr a w) (hp : RepP S vs.toList es)
    (h : (buildSliceK P t len es K).All Q) :
    ∃ v e w' c', (Instr.buildSlice t len vs).run P w = .ok v w' ∧ Rel base (S.withC c') fr a w' ∧ Pres base S.c S.β c' S.β ∧ RepE (S.withC c') v e ∧ (∀ b, b < w.heap.size → c'.w.heap[b]? = w.heap[b]?) ∧ (K e).All Q := by
  obtain ⟨xs, e, out, hrun, hf, hl', _, h⟩ := buildSlice_run (w := w) hp h
  obtain ⟨c', r', hp', _, hcw, _, _, hrep⟩ := r.newRow e hf
  refine ⟨.slice (some ⟨w.heap.size, 0, none⟩) len len, _, _, c', hrun, r', hp', repE_val ?_, fun b hb => by rw [hcw]; exact alloc_old hb, h⟩
  have := hrep len true (by omega) (fun _ => hl'.symm)
  rw [hl'] at this
  exact this
end Go.Weave
end
