/- The evaluator, part 2: operations, code, calls. -/
import Derived.Test.YtjaadkgohjbadaaWvA
namespace Go.Weave

def keyEq (a b : AVal) : Bool := eqCells a.cells b.cells
def findK (k : AVal) : List (AVal × AVal × Nat) → Nat → Option (Nat × AVal × Nat)
  | [], _ => none
  | (k', v, b) :: r, i => bif keyEq k k' then some (i, v, b) else findK k r (i + 1)
def putK (k v : AVal) : List (AVal × AVal × Nat) → Nat → List (AVal × AVal × Nat)
  | [], n => [(k, v, n)]
  | (k', v', b) :: r, n => bif keyEq k k' then (k, v, b) :: r else (k', v', b) :: putK k v r n
def hasK (k : AVal) (es : List (AVal × AVal × Nat)) : Bool := (findK k es 0).isSome
def delK (k : AVal) : List (AVal × AVal × Nat) → List (AVal × AVal × Nat)
  | [] => []
  | (k', v', b) :: r => bif keyEq k k' then r else (k', v', b) :: delK k r
def setBorn (b : Int) (v : AVal) : List (AVal × AVal × Nat) → List (AVal × AVal × Nat)
  | [] => []
  | (k', v', b') :: r => bif decide ((b' : Int) = b) then (k', v, b') :: r else (k', v', b') :: setBorn b v r

section
variable {R : Type}

def Fr.opnd (fr : Fr) : Operand → EV
  | .tmp t => fr.get t
  | .const v => (match ofValue v with | some a => .one (.val a) | none => .one .unk)
  | .func f => .one (.val (.fn f [] []))
  | .global _ => .one .unk

/-- A new variable. -/
def newK (P : Program) (A : Ann) (dst : Option Nat) (t : TypeId) (x : EV) (fr : Fr) (h : Heap) (K : Fr → Heap → Tr R) : Tr R :=
  match dst with
  | none => .fail
  | some d =>
    bif A.frz.contains d then
      optK x.toA fun v => bif (bif aggT P t then v.isAggOf (szOf P t) else !v.isAgg) then
        K (fr.set d (.one (.val (.elt v (aggT P t) v.cells.length 0)))) h else .fail
    else
    match look d A.loc with
    | some false =>
      optK x.toA fun v => bif (bif aggT P t then v.isAggOf (szOf P t) else !v.isAgg) && !(fr.any (SV.hasLoc d)) then
        K ((fr.setBox d (.plain (bif aggT P t then v.cells else [v]))).set d (.one (.loc d 0))) h else .fail
    | some true =>
      bif fr.any (SV.hasLoc d) || x.any (SV.hasLoc d) then .fail else
      (match x with
      | .cv (.agg l) => bif aggT P t && l.length == szOf P t then K ((fr.setBox d (.rich l)).set d (.one (.loc d 0))) h else .fail
      | .cv (.one (.val (.agg l))) => bif aggT P t && l.length == szOf P t then K ((fr.setBox d (.rich (l.map .val))).set d (.one (.loc d 0))) h else .fail
      | .cv (.one .unk) => .fail
      | .cv (.one s) => bif aggT P t then .fail else bif (s.toA.getD .nilp).isAgg then .fail else K ((fr.setBox d (.rich [s])).set d (.one (.loc d 0))) h
      | .tup _ => .fail)
    | none =>
      bif aggT P t then
        optK x.toA fun v => bif v.isAggOf (szOf P t) then K (fr.set d (.one (.val (.obj h.objs.length 0)))) (h.push (.cells (v.cells.map .val))) else .fail
      else
        (match x with
        | .cv (.one s) => optK (hcellOf s) fun p => K ((stripO p.2 fr).set d (.one (.val (.obj h.objs.length 0)))) (h.push (.cells [p.1]))
        | _ => .fail)

/-- A literal's cells. -/
def fillA (place : Nat → Option (Nat × Nat)) (cs : List AVal) : List (Nat × AVal) → Option (List AVal)
  | [] => some cs
  | (i, v) :: r =>
    match place i with
    | some (off, sz) => bif decide (0 < sz) && (v.cells.length == sz) && decide (off + sz ≤ cs.length) then fillA place (spliceAt off v.cells cs) r else none
    | none => none
def fillS (place : Nat → Option (Nat × Nat)) (cs : List SV) : List (Nat × CV) → Option (List SV)
  | [] => some cs
  | (i, v) :: r =>
    match place i with
    | some (off, sz) => bif decide (0 < sz) && (v.cellsS.length == sz) && decide (off + sz ≤ cs.length) then fillS place (spliceAt off v.cellsS cs) r else none
    | none => none
def placeOf (P : Program) (t : TypeId) : Option (Nat → Option (Nat × Nat)) :=
  match P.underlying t with
  | some (.struct fs) => bif fs.toList.all (fun f => (P.info? f.type).isSome) then some fun i => (fs[i]?).map fun f => (f.offset, szOf P f.type) else none
  | some (.array _ e) => bif (P.info? e).isSome then some fun i => some (i * szOf P e, szOf P e) else none
  | _ => none
def toCs : List (Nat × EV) → Option (List (Nat × CV))
  | [] => some []
  | (i, .cv c) :: r => match toCs r with | some l => some ((i, c) :: l) | none => none
  | (_, .tup _) :: _ => none
def toAs : List (Nat × EV) → Option (List (Nat × AVal))
  | [] => some []
  | (i, x) :: r => match x.toA, toAs r with | some v, some l => some ((i, v) :: l) | _, _ => none

def buildK (P : Program) (rich : Bool) (t : TypeId) (parts : List (Nat × EV)) (K : EV → Tr R) : Tr R :=
  optK (zeroOf P t) fun z => optK (placeOf P t) fun place =>
    bif rich then optK (toCs parts) fun ps => optK (fillS place (z.cells.map .val) ps) fun l => K (.agg l)
    else optK (toAs parts) fun ps => optK (fillA place z.cells ps) fun l => K (.one (.val (.agg l)))

/-- A slice literal's elements. -/
def elemsOf (ag : Bool) (sz : Nat) (es : List AVal) : List (Nat × AVal) → Option (List AVal)
  | [] => some es
  | (i, v) :: r => bif (bif ag then v.isAggOf sz else !v.isAgg) && decide (i < es.length) then elemsOf ag sz (es.set i v) r else none
def buildSliceK (P : Program) (t : TypeId) (len : Nat) (parts : List (Nat × EV)) (K : EV → Tr R) : Tr R :=
  match P.underlying t with
  | some (.slice e) =>
    bif elOk P e && decide (len * szOf P e ≤ 16777216) then
      optK (zeroOf P e) fun z => bif (bif aggT P e then z.isAggOf (szOf P e) else !z.isAgg) then
        optK (toAs parts) fun ps => optK (elemsOf (aggT P e) (szOf P e) (List.replicate len z) ps) fun es => K (.one (.val (.sl true (shp P e) es)))
      else .fail
    else .fail
  | _ => .fail

def fieldAddrK (P : Program) (s : TypeId) (x : EV) (f : Nat) (K : EV → Tr R) : Tr R :=
  match P.underlying s with
  | some (.struct fs) =>
    (match fs[f]? with
    | some fd =>
      bif szOf P fd.type == 0 then .fail else
      (match x with
      | .cv (.one (.loc d off)) => K (.one (.loc d (off + fd.offset)))
      | .cv (.one (.val (.obj id off))) => K (.one (.val (.obj id (off + fd.offset))))
      | .cv (.one (.val (.elt e ag sz off))) => K (.one (.val (.elt e ag sz (off + fd.offset))))
      | _ => .fail)
    | none => .fail)
  | _ => .fail

def indexAddrK (P : Program) (t : TypeId) (x i : EV) (K : EV → Tr R) : Tr R :=
  intOf i fun n =>
    match P.underlying t with
    | some (.array len e) =>
      bif elOk P e && (decide (0 ≤ n) && decide (n < (len : Int))) then
        (match x with
        | .cv (.one (.loc d off)) => K (.one (.loc d (off + n.toNat * szOf P e)))
        | .cv (.one (.val (.obj id off))) => K (.one (.val (.obj id (off + n.toNat * szOf P e))))
        | .cv (.one (.val (.elt v ag sz off))) => K (.one (.val (.elt v ag sz (off + n.toNat * szOf P e))))
        | _ => .fail)
      else .fail
    | some (.slice e) =>
      (match x.toA with
      | some (.sl _ sz es) =>
        bif elOk P e && (sz == shp P e || es.isEmpty) && (decide (0 ≤ n) && decide (n < (es.length : Int))) then
          K (.one (.val (.elt (es.getD n.toNat .undef) (aggT P e) (szOf P e) 0)))
        else .fail
      | _ => .fail)
    | _ => .fail

def partK (P : Program) (t : TypeId) (cs : List AVal) (off : Nat) (K : EV → Tr R) : Tr R :=
  bif aggT P t then (bif decide (off + szOf P t ≤ cs.length) then K (.one (.val (.agg ((cs.drop off).take (szOf P t))))) else .fail)
  else optK (cs[off]?) fun v => coerce P t v fun v => K (.one (.val v))

def fieldK (P : Program) (t : TypeId) (x : EV) (f : Nat) (K : EV → Tr R) : Tr R :=
  match P.underlying t with
  | some (.struct fs) =>
    (match fs[f]? with
    | some fd =>
      (match x with
      | .cv (.agg l) =>
        bif aggT P fd.type then (bif decide (fd.offset + szOf P fd.type ≤ l.length) then K (.agg ((l.drop fd.offset).take (szOf P fd.type))) else .fail)
        else bif (P.underlying fd.type).isSome then optK (l[fd.offset]?) fun s => coerceS P fd.type s fun s => K (.one s) else .fail
      | x => optK x.toA fun v => bif v.isAgg then partK P fd.type v.cells fd.offset K else .fail)
    | none => .fail)
  | _ => .fail

def indexK (P : Program) (t : TypeId) (x i : EV) (K : EV → Tr R) : Tr R :=
  intOf i fun n =>
    match P.underlying t, x with
    | some (.array len e), x =>
      optK x.toA fun v => bif v.isAgg && (decide (0 ≤ n) && decide (n < (len : Int))) then partK P e v.cells (n.toNat * szOf P e) K else .fail
    | some .string, .cv (.one (.val (.str s))) =>
      bif decide (0 ≤ n) && decide (n < (s.length : Int)) then K (.one (.val (.int .u8 ((s.getD n.toNat 0).toNat : Int)))) else .fail
    | _, _ => .fail

def keyOk (P : Program) (kt : TypeId) (k : AVal) : Bool := plainOk P kt k

def lookupK (P : Program) (t : TypeId) (x k : EV) (ok : Bool) (h : Heap) (K : EV → Tr R) : Tr R :=
  match P.underlying t with
  | some (.map kt et) =>
    optK x.toA fun m => optK k.toA fun k => optK (zeroOf P et) fun z =>
      bif keyOk P kt k then
        (match m with
        | .nilmap => bif ok then K (.tup [.one (.val z), .one (.val (.bool false))]) else K (.one (.val z))
        | m => bif m.isMap then
            (match h.objs[m.toId]? with
            | some (.map kt' es _) => bif kt' == kt then
              (match findK k es 0 with
              | some (_, v, _) => coerce P et v fun v => bif ok then K (.tup [.one (.val v), .one (.val (.bool true))]) else K (.one (.val v))
              | none => bif ok then K (.tup [.one (.val z), .one (.val (.bool false))]) else K (.one (.val z))) else .fail
            | _ => .fail)
          else .fail)
      else .fail
  | _ => .fail

def mapK (h : Heap) (m : AVal) (K : Nat → TypeId → List (AVal × AVal × Nat) → Nat → Tr R) : Tr R :=
  bif m.isMap then (match h.objs[m.toId]? with | some (.map kt es c) => K m.toId kt es c | _ => .fail) else .fail

def mapUpdateK (P : Program) (t : TypeId) (m k v : EV) (h : Heap) (K : Heap → Tr R) : Tr R :=
  match P.underlying t with
  | some (.map kt _) =>
    optK m.toA fun m => optK k.toA fun k => optK v.toA fun v =>
      bif keyOk P kt k then mapK h m fun id kt' es c => bif kt' == kt then
        K ⟨h.objs.set id (.map kt (putK k v es c) (bif hasK k es then c else c + 1))⟩ else .fail else .fail
  | _ => .fail

def mapEntryK (P : Program) (t : TypeId) (m k : EV) (h : Heap) (K : EV → Heap → Tr R) : Tr R :=
  match P.underlying t with
  | some (.map kt et) =>
    optK m.toA fun m => optK k.toA fun k => optK (zeroOf P et) fun z =>
      bif keyOk P kt k then mapK h m fun id kt' es c => bif kt' == kt then
        (match findK k es 0 with
        | some (_, v, b) => coerce P et v fun v => K (.tup [.one (.val v), .one (.val (.int .i64 b))]) ⟨h.objs.set id (.map kt (putK k v es c) c)⟩
        | none => K (.tup [.one (.val z), .one (.val (.int .i64 c))]) ⟨h.objs.set id (.map kt (putK k z es c) (c + 1))⟩) else .fail else .fail
  | _ => .fail

def hasBorn (b : Int) (es : List (AVal × AVal × Nat)) : Bool := es.any fun e => decide ((e.2.2 : Int) = b)
def entryStoreK (m s v : EV) (h : Heap) (K : Heap → Tr R) : Tr R :=
  optK m.toA fun m => intOf s fun b => optK v.toA fun v => mapK h m fun id kt es c =>
    bif hasBorn b es then K ⟨h.objs.set id (.map kt (setBorn b v es) c)⟩ else .fail

def deleteK (P : Program) (t : TypeId) (m k : EV) (h : Heap) (K : Heap → Tr R) : Tr R :=
  match P.underlying t with
  | some (.map kt _) =>
    optK m.toA fun m => optK k.toA fun k =>
      bif keyOk P kt k then mapK h m fun id kt' es c => bif kt' == kt then K ⟨h.objs.set id (.map kt (delK k es) c)⟩ else .fail else .fail
  | _ => .fail

def lenK (P : Program) (t : TypeId) (x : EV) (h : Heap) (K : EV → Tr R) : Tr R :=
  match P.underlying t with
  | some .string => (match x with | .cv (.one (.val (.str s))) => K (.one (.val (.int .i64 s.length))) | _ => .fail)
  | some (.slice _) => (match x.toA with | some (.sl _ _ es) => K (.one (.val (.int .i64 es.length))) | _ => .fail)
  | some (.array n _) => K (.one (.val (.int .i64 n)))
  | some (.map _ _) => optK x.toA fun m => (match m with | .nilmap => K (.one (.val (.int .i64 0))) | m => mapK h m fun _ _ es _ => K (.one (.val (.int .i64 es.length))))
  | _ => .fail

def minFrom (big : Bool) (k : IntKind) : Int → List EV → (EV → Tr R) → Tr R
  | a, [], K => K (.one (.val (.int k a)))
  | a, .cv (.one (.val (.int _ b))) :: r, K => minFrom big k (bif big then (if b > a then b else a) else (if b < a then b else a)) r K
  | _, _, _ => .fail
def minK (big : Bool) : List EV → (EV → Tr R) → Tr R
  | .cv (.one (.val (.int k a))) :: r, K => minFrom big k a r K
  | _, _ => .fail

/-! ### Words that residual texts use as well -/
def AVal.isAddr : AVal → Bool | .obj _ _ => true | .elt _ _ _ _ => true | _ => false
def AVal.shift (k : Nat) : AVal → AVal | .obj id off => .obj id (off + k) | .elt e ag sz off => .elt e ag sz (off + k) | v => v
/-- A look behind any pointer; 'agt', 'n': whether an aggregate is looked at, and how many cells it has. -/
def ptrLdK (agt : Bool) (n : Nat) (v : AVal) (h : Heap) (K : AVal → Tr R) : Tr R :=
  match v with
  | .obj id off => bif agt then optK (h.cells? id off n) fun cs => K (.agg cs) else optK (h.cell? id off) fun c => K c.toA
  | .elt e ag sz off =>
    bif sz == n && (ag == agt) && off == 0 then K e else
    bif ag then
      (bif agt then (bif decide (off + n ≤ e.cells.length) then K (.agg ((e.cells.drop off).take n)) else .fail)
      else optK (e.cells[off]?) K)
    else .fail
  | _ => .fail
def ptrLoadK (P : Program) (t : TypeId) (v : AVal) (h : Heap) (K : AVal → Tr R) : Tr R := ptrLdK (aggT P t) (szOf P t) v h K
/-- What is put into a managed cell. -/
def hcellK (s : SV) (K : HCell → Option Nat → Tr R) : Tr R :=
  match s with
  | .val v => bif v.isAgg then .fail else K (.val v) none
  | .own g sz es => K (.own sz es) (some g)
  | .bor _ _ sz es => K (.val (.sl false sz es)) none
  | .loc _ _ | .lsl _ | .unk => .fail
/-- Cells that are put one behind the other into a managed object. -/
def putCellsK (h : Heap) (id off n : Nat) (vs : List AVal) (K : Heap → Tr R) : Tr R :=
  optK (h.cells? id off n) fun _ =>
    (match h.objs[id]? with
    | some (.cells cs) => bif noOwn n off cs then K ⟨h.objs.set id (.cells (spliceAt off (vs.map .val) cs))⟩ else .fail
    | _ => .fail)
def storeK' (P : Program) (t : TypeId) (a x : EV) (fr : Fr) (h : Heap) (K : Fr → Heap → Tr R) : Tr R :=
  match a with
  | .cv (.one (.val (.obj id off))) =>
    bif decide (0 < szOf P t) && (aggT P t || szOf P t == 1) then
      (bif aggT P t then optK x.toA fun v => bif v.isAggOf (szOf P t) then putCellsK h id off (szOf P t) v.cells fun h => K (fr.mapS SV.unbor) h else .fail
      else
        (match x with
        | .cv (.one s) => hcellK s fun c g => optK (h.cell? id off) fun _ => K ((stripO g fr).mapS SV.unbor) (h.setCell id off c)
        | _ => .fail)) else .fail
  | a => storeK P t a x fr h K
def loadK' (P : Program) (t : TypeId) (a : EV) (fr : Fr) (h : Heap) (K : EV → Tr R) : Tr R :=
  match a with
  | .cv (.one (.val v)) =>
    (match P.underlying t with
    | some (.slice _) => loadK P t (.cv (.one (.val v))) fr h K
    | _ => ptrLoadK P t v h fun w => coerce P t w fun w => K (.one (.val w)))
  | a => loadK P t a fr h K
def fieldAddrK' (P : Program) (s : TypeId) (x : EV) (f : Nat) (K : EV → Tr R) : Tr R :=
  match x with
  | .cv (.one (.val v)) =>
    (match P.underlying s with
    | some (.struct fs) =>
      (match fs[f]? with
      | some fd => bif szOf P fd.type == 0 then .fail else bif v.isAddr then K (.one (.val (v.shift fd.offset))) else .fail
      | none => .fail)
    | _ => .fail)
  | x => fieldAddrK P s x f K
def nilCheckK (x : EV) (K : EV → Tr R) : Tr R :=
  match x with
  | .cv (.one (.loc d off)) => K (.one (.loc d off))
  | .cv (.one (.val v)) => bif v.isAddr || v.isFn then K (.one (.val v)) else .fail
  | _ => .fail
/-- A frozen object of 'n' cells: a pointer to one is told with its cells. -/
def nodeW (n : Nat) (v : AVal) (K : List AVal → Tr R) : Tr R :=
  match v with
  | .elt (.agg cs) true sz 0 => bif sz == n then K cs else .fail
  | _ => .fail
def nodeK (n : Option Nat) (x : EV) (K : EV → Tr R) : Tr R :=
  match n with
  | none => K x
  | some n => (match x with | .cv (.one (.val v)) => nodeW n v fun cs => K (.one (.val (.elt (.agg cs) true n 0))) | _ => .fail)
/-- Two values compared or reckoned with; with nil first of all. -/
def binK' (P : Program) (op : BinOp) (t : TypeId) (x y : AVal) (K : AVal → Tr R) : Tr R :=
  match y with
  | .nilp =>
    (match op, P.underlying t with
    | .eql, some (.pointer _) => bif x.isPtr then K (.bool x.isNilp) else .fail
    | .neq, some (.pointer _) => bif x.isPtr then K (.bool (!x.isNilp)) else .fail
    | _, _ => .fail)
  | y => binK P op t x y K
/-- A look into a map. -/
def lookK (kt : TypeId) (z m k : AVal) (h : Heap) (K : AVal → Bool → Tr R) : Tr R :=
  match m with
  | .nilmap => K z false
  | .map id =>
    (match h.objs[id]? with
    | some (.map kt' es _) => bif kt' == kt then (match findK k es 0 with | some (_, v, _) => K v true | none => K z false) else .fail
    | _ => .fail)
  | _ => .fail
def notSlice (P : Program) (t : TypeId) : Bool := match P.underlying t with | some (.slice _) => false | _ => true
def lookupK' (P : Program) (t : TypeId) (x k : EV) (ok : Bool) (h : Heap) (K : EV → Tr R) : Tr R :=
  match P.underlying t with
  | some (.map kt et) =>
    optK x.toA fun m => optK k.toA fun k => optK (zeroOf P et) fun z =>
      bif keyOk P kt k && notSlice P et then
        lookK kt z m k h fun v b => coerce P et v fun v => bif ok then K (.tup [.one (.val v), .one (.val (.bool b))]) else K (.one (.val v))
      else .fail
  | _ => .fail
def entryK (kt : TypeId) (z m k : AVal) (h : Heap) (K : AVal → Nat → Heap → Tr R) : Tr R :=
  mapK h m fun id kt' es c => bif kt' == kt then
    (match findK k es 0 with
    | some (_, v, b) => K v b ⟨h.objs.set id (.map kt (putK k v es c) c)⟩
    | none => K z c ⟨h.objs.set id (.map kt (putK k z es c) (c + 1))⟩) else .fail
def mapEntryK' (P : Program) (t : TypeId) (m k : EV) (h : Heap) (K : EV → Heap → Tr R) : Tr R :=
  match P.underlying t with
  | some (.map kt et) =>
    optK m.toA fun m => optK k.toA fun k => optK (zeroOf P et) fun z =>
      bif keyOk P kt k && notSlice P et then entryK kt z m k h fun v b h => coerce P et v fun v => K (.tup [.one (.val v), .one (.val (.int .i64 b))]) h else .fail
  | _ => .fail
def mapLenK (m : AVal) (h : Heap) (K : Nat → Tr R) : Tr R :=
  match m with
  | .nilmap => K 0
  | .map id => (match h.objs[id]? with | some (.map _ es _) => K es.length | _ => .fail)
  | _ => .fail
def lenK' (P : Program) (t : TypeId) (x : EV) (h : Heap) (K : EV → Tr R) : Tr R :=
  match P.underlying t with
  | some (.map _ _) => optK x.toA fun m => mapLenK m h fun n => K (.one (.val (.int .i64 n)))
  | _ => lenK P t x h K
/-- A slice literal's elements. -/
def elemsK (ag : Bool) (sz : Nat) (es : List AVal) : List (Nat × AVal) → (List AVal → Tr R) → Tr R
  | [], K => K es
  | (i, v) :: r, K => bif (bif ag then v.isAggOf sz else !v.isAgg) && decide (i < es.length) then elemsK ag sz (es.set i v) r K else .fail
def buildSliceK' (P : Program) (t : TypeId) (len : Nat) (parts : List (Nat × EV)) (K : EV → Tr R) : Tr R :=
  match P.underlying t with
  | some (.slice e) =>
    bif elOk P e && decide (len * szOf P e ≤ 16777216) then
      optK (zeroOf P e) fun z => bif (bif aggT P e then z.isAggOf (szOf P e) else !z.isAgg) then
        optK (toAs parts) fun ps => elemsK (aggT P e) (szOf P e) (List.replicate len z) ps fun es => K (.one (.val (.sl true (shp P e) es)))
      else .fail
    else .fail
  | _ => .fail
def spliceN {α : Type} (off sz : Nat) (new l : List α) : List α := l.take off ++ new ++ l.drop (off + sz)
/-- A literal's cells. 'ag': which of its parts are aggregates. -/
def fillAK (place : Nat → Option (Nat × Nat)) (ag : Nat → Bool) (cs : List AVal) : List (Nat × AVal) → (List AVal → Tr R) → Tr R
  | [], K => K cs
  | (i, v) :: r, K =>
    match place i with
    | some (off, sz) => bif decide (0 < sz) && ((bif ag i then v.isAggOf sz else !v.isAgg && sz == 1) && decide (off + sz ≤ cs.length)) then fillAK place ag (spliceN off sz (bif ag i then v.cells else [v]) cs) r K else .fail
    | none => .fail
def agOf (P : Program) (t : TypeId) : Nat → Bool :=
  match P.underlying t with
  | some (.struct fs) => fun i => (match fs[i]? with | some f => aggT P f.type | none => false)
  | some (.array _ e) => fun _ => aggT P e
  | _ => fun _ => false
def buildK' (P : Program) (rich : Bool) (t : TypeId) (parts : List (Nat × EV)) (K : EV → Tr R) : Tr R :=
  bif rich then buildK P rich t parts K else
    optK (zeroOf P t) fun z => optK (placeOf P t) fun place => optK (toAs parts) fun ps => fillAK place (agOf P t) z.cells ps fun l => K (.one (.val (.agg l)))

/-- append: what is appended to must own its end. -/
def appendSrc (P : Program) (et : TypeId) : EV → Option (List AVal)
  | .cv (.one (.val (.str s))) => (match P.underlying et with | some (.int .u8) => some (s.map ofByte) | _ => none)
  | x => (match x.toA with | some (.sl _ sz es) => bif sz == shp P et || es.isEmpty then some es else none | _ => none)

/-- What a managed cell lends is appended to: it is owned there, or nobody's end. -/
def lentK (h : Heap) (id off sz : Nat) (es : List AVal) (K : Heap → Tr R) : Tr R :=
  match h.cell? id off with
  | some (.own sz' _) => bif sz' == sz then K (h.setCell id off (.val (.sl false sz es))) else .fail
  | some (.val (.sl true _ _)) => K h
  | _ => .fail
def appendK (P : Program) (ts : List TypeId) (dst : Option Nat) (x y : EV) (fr : Fr) (h : Heap) (K : Fr → Heap → Tr R) : Tr R :=
  match ts, dst with
  | [t, ty], some d =>
    (match P.underlying t, P.underlying ty with
    | some (.slice _), some (.int _) => .fail
    | some (.slice e), some _ =>
      optK (appendSrc P e y) fun ys =>
        (match x with
        | .cv (.one s) =>
          (match s.toA with
          | some (.sl full sz es) =>
            bif elOk P e && (sz == shp P e || es.isEmpty) && decide (0 < bytesOf P e) && decide ((es.length + ys.length) * bytesOf P e ≤ roomB (bytesOf P e)) then
              (match s with
              | .own g z _ => bif !(z == shp P e) || (fr.mapS (SV.strip g)).any (SV.has (tokOf d 0)) then .fail else
                  K ((fr.mapS (SV.strip g)).set d (.one (.own (tokOf d 0) (shp P e) (es ++ ys)))) h
              | .bor id off _ _ => bif (fr.mapS SV.unbor).any (SV.has (tokOf d 0)) then .fail else
                  lentK h id off (shp P e) es fun h => K ((fr.mapS SV.unbor).set d (.one (.own (tokOf d 0) (shp P e) (es ++ ys)))) h
              | _ => bif full then (bif fr.any (SV.has (tokOf d 0)) then .fail else K (fr.set d (.one (.own (tokOf d 0) (shp P e) (es ++ ys)))) h) else .fail)
            else .fail
          | _ => .fail)
        | _ => .fail)
    | _, _ => .fail)
  | _, _ => .fail

/-- Arguments: what the callee takes over is owned here, and is not behind the call. The tokens: the callee's, the caller's. -/
def argsOf (l : List Nat) : Nat → List EV → Option (List AVal × List (Nat × Nat))
  | _, [] => some ([], [])
  | i, x :: r =>
    match x.toA, argsOf l (i + 1) r with
    | some v, some (vs, ts) =>
      bif l.contains i then
        (match x with
        | .cv (.one (.own g _ _)) => some (v :: vs, (tokOf i 0, g) :: ts)
        | .cv (.one (.val (.sl true _ _))) => some (v :: vs, ts)
        | _ => none)
      else some (v :: vs, ts)
    | _, _ => none

/-- A value that comes in, owned where it is said to be. -/
def cvIn (own : Bool) (g : Nat) (v : AVal) : CV :=
  bif own then (match v with | .sl false sz es => .one (.own g sz es) | v => .one (.val v)) else .one (.val v)

def resK (P : Program) (l : List Nat) (d i : Nat) (t : TypeId) (v : AVal) (K : CV → Tr R) : Tr R :=
  bif l.contains i then
    (match P.underlying t with
    | some (.slice e) => bif v.isSlO (shp P e) then K (.one (.own (tokOf d i) (shp P e) v.toEs)) else .fail
    | _ => .fail)
  else coerce P t v fun v => K (.one (.val v))
def consK (l : List AVal) (K : AVal → List AVal → Tr R) : Tr R := match l with | v :: vs => K v vs | [] => .fail
def nilK (l : List AVal) (K : Tr R) : Tr R := match l with | [] => K | _ :: _ => .fail
def ressK (P : Program) (l : List Nat) (d : Nat) : Nat → List TypeId → List AVal → (List CV → Tr R) → Tr R
  | _, [], vs, K => nilK vs (K [])
  | i, t :: ts, vs, K => consK vs fun v vs => resK P l d i t v fun c => ressK P l d (i + 1) ts vs fun cs => K (c :: cs)
def evOf : List CV → EV
  | [c] => .cv c
  | cs => .tup cs

/-- The frame behind a call. -/
def handK (gs toks : List Nat) (d : Nat) (e : EV) (fr : Fr) (h : Heap) (K : Fr → Heap → Tr R) : Tr R :=
  bif toks.any (fun g => (fr.mapS (SV.strips gs)).any (SV.has g)) then .fail else K (((fr.mapS (SV.strips gs)).mapS SV.unbor).set d e) h

def callK (C : Cfg) (call : FuncId → List AVal → Heap → Tr Res) (f : FuncId) (xs : List EV) (dst : Option Nat) (fr : Fr) (h : Heap) (K : Fr → Heap → Tr Res) : Tr Res :=
  match dst, C.P.funcs[f]? with
  | some d, some fn =>
    bif fn.body.isSome && (fn.name != "runtime.NumGoroutine") then
      optK (argsOf (C.ann f).pown 0 xs) fun a =>
        bif nodup (a.2.map (·.1)) && nodup (a.2.map (·.2)) then
          (call f a.1 h).bind fun r =>
            ressK C.P (C.ann f).rown d 0 fn.resultTypes.toList r.1 fun cs => handK (a.2.map (·.2)) (cs.flatMap CV.toks) d (evOf cs) fr r.2 K
        else .fail
    else .fail
  | _, _ => .fail

def evList (fr : Fr) (xs : Array Operand) : List EV := xs.toList.map fr.opnd

/-- Package-level variables that are told. -/
def Cfg.opnd (C : Cfg) (fr : Fr) (x : Operand) : EV :=
  match x with
  | .global g => (match C.glob g with | some a => .one (.val a) | none => fr.opnd x)
  | _ => fr.opnd x
/-- A function value that nobody knows: one of those that are named, or it fails. -/
def AVal.isFnOf (f n : Nat) : AVal → Bool
  | .fn g first cap => g == f && (first.isEmpty && cap.length == n)
  | _ => false
def AVal.capAt (i : Nat) : AVal → AVal
  | .fn _ _ cap => cap.getD i .undef
  | _ => .undef
def capsOf (v : AVal) : Nat → Nat → List AVal
  | _, 0 => []
  | i, n + 1 => v.capAt i :: capsOf v (i + 1) n
def fnsK : List (FuncId × Nat) → AVal → (FuncId → List AVal → List AVal → Tr R) → Tr R
  | [], _, _ => .fail
  | (f, n) :: r, v, K => bif v.isFnOf f n then K f [] (capsOf v 0 n) else fnsK r v K
def fnOne (v : AVal) (K : FuncId → List AVal → List AVal → Tr R) : Tr R :=
  match v with
  | .fn f first cap => K f first cap
  | _ => .fail
def fnK (l : List (FuncId × Nat)) (v : AVal) (K : FuncId → List AVal → List AVal → Tr R) : Tr R :=
  match l with
  | [] => fnOne v K
  | x :: r => fnsK (x :: r) v K
def opK (C : Cfg) (A : Ann) (call : FuncId → List AVal → Heap → Tr Res) (o : Oper) (fr : Fr) (h : Heap) (K : Fr → Heap → Tr Res) : Tr Res :=
  let P := C.P
  let put (v : EV) : Tr Res := K (fr.put o.dst v) h
  match o.op with
  | .move x | .assign x => put (fr.opnd x)
  | .pick c a b =>
    (match fr.opnd c with
    | .cv (.one (.val (.bool t))) => bif t then put (fr.opnd a) else put (fr.opnd b)
    | _ => .fail)
  | .alloc t => optK (zeroOf P t) fun z => newK P A o.dst t (.one (.val z)) fr h K
  | .box t x => newK P A o.dst t (fr.opnd x) fr h K
  | .build t parts => buildK' P (match o.dst with | some d => A.rich.contains d | none => false) t (parts.toList.map fun p => (p.1, fr.opnd p.2)) put
  | .buildSlice t len parts => buildSliceK' P t len (parts.toList.map fun p => (p.1, fr.opnd p.2)) put
  | .load t a => loadK' P t (fr.opnd a) fr h put
  | .store t a x => storeK' P t (fr.opnd a) (fr.opnd x) fr h fun fr h => K (fr.put o.dst (.tup [])) h
  | .nilCheck x => nodeK (o.dst.bind fun d => look d A.node) (fr.opnd x) fun x => nilCheckK x put
  | .binOp op t x y _ => optK (fr.opnd x).toA fun a => optK (fr.opnd y).toA fun b => binK' P op t a b fun v => put (.one (.val v))
  | .unOp op _ x => optK (fr.opnd x).toA fun a => unK op a fun v => put (.one (.val v))
  | .convert s t x => optK (fr.opnd x).toA fun a => convK P s t a fun v => put (.one (.val v))
  | .makeFunc (.func f) first cap =>
    optK (optAll ((evList fr first).map EV.toA)) fun vs => optK (optAll ((evList fr cap).map EV.toA)) fun ws => put (.one (.val (.fn f vs ws)))
  | .makeMap t none => (match P.underlying t with
    | some (.map kt _) => K (fr.put o.dst (.one (.val (.map h.objs.length)))) (h.push (.map kt [] 0))
    | _ => .fail)
  | .slice t x lo hi mx => sliceK P t (fr.opnd x) (lo.map fr.opnd) (hi.map fr.opnd) (mx.map fr.opnd) put
  | .fieldAddr s x f => fieldAddrK' P s (fr.opnd x) f put
  | .field t x f => fieldK P t (fr.opnd x) f put
  | .indexAddr t x i => indexAddrK P t (C.opnd fr x) (fr.opnd i) put
  | .index t x i => indexK P t (fr.opnd x) (fr.opnd i) put
  | .lookup t x k ok => lookupK' P t (fr.opnd x) (fr.opnd k) ok h put
  | .mapUpdate t m k v | .insert t m k v => mapUpdateK P t (fr.opnd m) (fr.opnd k) (fr.opnd v) h fun h => K ((fr.mapS SV.unbor).put o.dst (.tup [])) h
  | .mapEntry t m k => mapEntryK' P t (fr.opnd m) (fr.opnd k) h fun v h => K ((fr.mapS SV.unbor).put o.dst v) h
  | .entryStore _ m s v => entryStoreK (fr.opnd m) (fr.opnd s) (fr.opnd v) h fun h => K ((fr.mapS SV.unbor).put o.dst (.tup [])) h
  | .extract x i => (match fr.opnd x with | .tup l => optK (l[i]?) fun c => put (.cv c) | _ => .fail)
  | .call c =>
    (match c.callee with
    | .value f =>
      (match fr.opnd f with
      | .cv (.one (.val v)) => fnK A.fns v fun f first cap => callK C call f ((first.map fun v => .one (.val v)) ++ evList fr c.args ++ cap.map fun v => .one (.val v)) o.dst fr h K
      | _ => .fail)
    | .builtin .len => (match c.argTypes.toList, evList fr c.args with | t :: _, x :: _ => lenK' P t x h put | _, _ => .fail)
    | .builtin .append => (match evList fr c.args with | [x, y] => appendK P c.argTypes.toList o.dst x y fr h K | _ => .fail)
    | .builtin .min => minK false (evList fr c.args) put
    | .builtin .max => minK true (evList fr c.args) put
    | .builtin .delete => (match c.argTypes.toList, evList fr c.args with | t :: _, [m, k] => deleteK P t m k h fun h => K ((fr.mapS SV.unbor).put o.dst (.tup [])) h | _, _ => .fail)
    | _ => .fail)
  | _ => .fail

/-- One operation, under its guard. 'ops': the region. -/
def oneK (C : Cfg) (A : Ann) (call : FuncId → List AVal → Heap → Tr Res) (ops : Array Oper) (o : Oper) (fr : Fr) (h : Heap) (K : Fr → Heap → Tr Res) : Tr Res :=
  match o.guard with
  | none => opK C A call o fr h K
  | some (j, want) =>
    match (ops[j]?).bind (·.dst) with
    | none => .fail
    | some s =>
      match fr.get s with
      | .cv (.one (.val (.bool b))) =>
        bif b then
          (bif want then opK C A call o (fr.set s (.one (.val (.bool true)))) h K else K ((fr.set s (.one (.val (.bool true)))).put o.dst (.tup [])) h)
        else
          (bif want then K ((fr.set s (.one (.val (.bool false)))).put o.dst (.tup [])) h else opK C A call o (fr.set s (.one (.val (.bool false)))) h K)
      | .tup [] => K (fr.put o.dst (.tup [])) h
      | _ => .fail

/-! ### Slices that are the frame's own: their elements are stored into -/
def SV.frz (d g sz : Nat) (es : List AVal) : SV → SV
  | .lsl d' => bif d' == d then .own g sz es else .lsl d'
  | .loc d' off => bif d' == d then .unk else .loc d' off
  | s => s
/-- No word of a variable is left. -/
def SV.noLoc (d : Nat) : SV → SV
  | .lsl d' => bif d' == d then .unk else .lsl d'
  | .loc d' off => bif d' == d then .unk else .loc d' off
  | s => s
def delB (d : Nat) : List (Nat × Box) → List (Nat × Box)
  | [] => []
  | (k, b) :: r => bif k == d then delB d r else (k, b) :: delB d r
def Fr.del (d : Nat) (fr : Fr) : Fr := ⟨fr.env, delB d fr.boxes⟩
/-- The frame's own array is a slice again, as all are. -/
def frzK (d : Nat) (fr : Fr) (K : Fr → Tr R) : Tr R :=
  match look d fr.boxes with
  | some (.arr sz es) => bif fr.any (SV.has (tokOf d 1)) then .fail else K ((fr.del d).mapS (SV.frz d (tokOf d 1) sz es))
  | _ => .fail
def frzL : List Operand → Fr → (Fr → Tr R) → Tr R
  | [], fr, K => K fr
  | x :: r, fr, K => match fr.opnd x with | .cv (.one (.lsl d)) => frzK d fr fun fr => frzL r fr K | _ => frzL r fr K
def opsOf : Op → List Operand
  | .pick _ a b => [a, b]
  | .box _ x => [x]
  | .build _ ps => ps.toList.map (·.2)
  | .buildSlice _ _ ps => ps.toList.map (·.2)
  | .store _ _ x => [x]
  | .convert _ _ x => [x]
  | .makeFunc _ f c => f.toList ++ c.toList
  | .slice _ x _ _ _ => [x]
  | .mapUpdate _ _ _ v => [v]
  | .insert _ _ _ v => [v]
  | .entryStore _ _ _ v => [v]
  | .call c => c.args.toList
  | _ => []
def mulC (n k : Nat) : Nat := bif k == 1 then n else n * k
def divC (n k : Nat) : Nat := bif k == 1 then n else n / k
def alignC (n k : Nat) : Bool := bif k == 1 then true else decide (n / k * k = n)
def thawAt (A : Ann) (dst : Option Nat) : Bool := match dst with | some d => A.thaw.contains d | none => false
/-- An operation, where a slice may be the frame's own. -/
def opX (C : Cfg) (A : Ann) (call : FuncId → List AVal → Heap → Tr Res) (o : Oper) (fr : Fr) (h : Heap) (K : Fr → Heap → Tr Res) : Tr Res :=
  let P := C.P
  let old : Tr Res := frzL (opsOf o.op) fr fun fr => opK C A call o fr h K
  match o.op with
  | .move x | .assign x =>
    bif thawAt A o.dst then frzL [x] fr fun fr => opK C A call o fr h K else opK C A call o fr h K
  | .buildSlice t len parts =>
    (match o.dst with
    | some d =>
      bif A.xs.contains d then
        buildSliceK P t len (parts.toList.map fun p => (p.1, fr.opnd p.2)) fun e =>
          (match e with
          | .cv (.one (.val (.sl _ sz es))) => bif fr.any (SV.hasLoc d) then .fail else K ((fr.setBox d (.arr sz es)).set d (.one (.lsl d))) h
          | _ => .fail)
      else old
    | none => old)
  | .load t a =>
    (match fr.opnd a with
    | .cv (.one (.loc d off)) =>
      (match look d fr.boxes with
      | some (.arr sz es) =>
        bif elOk P t && sz == shp P t && alignC off (szOf P t) && decide (divC off (szOf P t) < es.length) then
          coerce P t (es.getD (divC off (szOf P t)) .undef) fun v => K (fr.put o.dst (.one (.val v))) h
        else .fail
      | _ => old)
    | _ => old)
  | .store t a x =>
    (match fr.opnd a with
    | .cv (.one (.loc d off)) =>
      (match look d fr.boxes with
      | some (.arr sz es) =>
        optK (fr.opnd x).toA fun v =>
          bif elOk P t && sz == shp P t && alignC off (szOf P t) && decide (divC off (szOf P t) < es.length) && (bif aggT P t then v.isAggOf (szOf P t) else !v.isAgg) then
            K ((fr.setBox d (.arr sz (es.set (divC off (szOf P t)) v))).put o.dst (.tup [])) h
          else .fail
      | _ => old)
    | _ => old)
  | .indexAddr t x i =>
    (match C.opnd fr x with
    | .cv (.one (.lsl d)) =>
      (match P.underlying t, look d fr.boxes with
      | some (.slice e), some (.arr sz es) =>
        intOf (fr.opnd i) fun n => bif elOk P e && sz == shp P e && (decide (0 ≤ n) && decide (n < (es.length : Int))) then K (fr.put o.dst (.one (.loc d (mulC n.toNat (szOf P e))))) h else .fail
      | _, _ => .fail)
    | _ => old)
  | .convert s t x =>
    (match fr.opnd x with
    | .cv (.one (.lsl d)) =>
      (match P.underlying s, P.underlying t, look d fr.boxes with
      | some (.slice e), some (.slice _), some (.arr sz es) =>
        (match P.underlying e with
        | some (.int .u8) => bif s == t then K (((fr.del d).mapS (SV.noLoc d)).put o.dst (.one (.val (.sl false sz es)))) h else .fail
        | _ => .fail)
      | _, _, _ => old)
    | _ => old)
  | .call c =>
    (match c.callee with
    | .builtin .len =>
      (match c.argTypes.toList, evList fr c.args with
      | t :: _, .cv (.one (.lsl d)) :: _ =>
        (match P.underlying t, look d fr.boxes with
        | some (.slice _), some (.arr _ es) => K (fr.put o.dst (.one (.val (.int .i64 es.length)))) h
        | _, _ => .fail)
      | _, _ => old)
    | .builtin .append =>
      (match c.argTypes.toList, evList fr c.args, o.dst with
      | [t, ty], [.cv (.one (.lsl d)), y], some s =>
        (match P.underlying t, P.underlying ty, look d fr.boxes with
        | some (.slice _), some (.int _), _ => .fail
        | some (.slice e), some _, some (.arr sz es) =>
          optK (appendSrc P e y) fun ys =>
            bif elOk P e && sz == shp P e && decide (0 < bytesOf P e) && decide ((es.length + ys.length) * bytesOf P e ≤ roomB (bytesOf P e)) then
              K ((((fr.mapS (SV.noLoc d)).setBox d (.arr sz (es ++ ys)))).set s (.one (.lsl d))) h
            else .fail
        | _, _, _ => .fail)
      | _, _, _ => old)
    | _ => old)
  | _ => old
/-- One operation, under its guard, where a slice may be the frame's own. -/
def oneX (C : Cfg) (A : Ann) (call : FuncId → List AVal → Heap → Tr Res) (ops : Array Oper) (o : Oper) (fr : Fr) (h : Heap) (K : Fr → Heap → Tr Res) : Tr Res :=
  match o.guard with
  | none => opX C A call o fr h K
  | some (j, want) =>
    match (ops[j]?).bind (·.dst) with
    | none => .fail
    | some s =>
      match fr.get s with
      | .cv (.one (.val (.bool b))) =>
        bif b then
          (bif want then opX C A call o (fr.set s (.one (.val (.bool true)))) h K else K ((fr.set s (.one (.val (.bool true)))).put o.dst (.tup [])) h)
        else
          (bif want then K ((fr.set s (.one (.val (.bool false)))).put o.dst (.tup [])) h else opX C A call o (fr.set s (.one (.val (.bool false)))) h K)
      | .tup [] => K (fr.put o.dst (.tup [])) h
      | _ => .fail

def opsK (C : Cfg) (A : Ann) (call : FuncId → List AVal → Heap → Tr Res) (ops : Array Oper) : List Oper → Fr → Heap → (Fr → Heap → Tr Res) → Tr Res
  | [], fr, h, K => K fr h
  | o :: r, fr, h, K => oneK C A call ops o fr h fun fr h => opsK C A call ops r fr h K
def opsX (C : Cfg) (A : Ann) (call : FuncId → List AVal → Heap → Tr Res) (ops : Array Oper) : List Oper → Fr → Heap → (Fr → Heap → Tr Res) → Tr Res
  | [], fr, h, K => K fr h
  | o :: r, fr, h, K => oneX C A call ops o fr h fun fr h => opsX C A call ops r fr h K

/-! ### A region of which the order is free -/
/-- Operations that neither look at the memory nor change it. -/
def stillOp (P : Program) (o : Oper) : Bool :=
  match o.op with
  | .move _ | .assign _ | .pick _ _ _ | .build _ _ | .nilCheck _ | .binOp _ _ _ _ _ | .unOp _ _ _ | .makeFunc (.func _) _ _ | .slice _ _ _ _ _ | .fieldAddr _ _ _ | .field _ _ _
  | .indexAddr _ _ _ | .index _ _ _ | .extract _ _ => true
  | .convert s t _ => (match P.underlying t with | some (.int _) => true | some .string => (match P.underlying s with | some .string => true | _ => false) | _ => false)
  | .call c => (match c.callee with
    | .builtin .len => (match c.argTypes.toList with | t :: _ => (match P.underlying t with | some (.slice _) | some .string => true | _ => false) | _ => false)
    | .builtin .min | .builtin .max => true
    | _ => false)
  | _ => false

def readyAt (ops : Array Oper) (l : List Bool) (i : Nat) : Bool :=
  !(l.getD i true) && (match ops[i]? with | some o => o.after.toList.all (fun e => !(Region.binds .any e) || l.getD e.on false) | none => false)
def readyL (ops : Array Oper) (l : List Bool) : List Nat := (List.range ops.size).filter (readyAt ops l)
def freeAt (ops : Array Oper) (l : List Bool) (i : Nat) (oi : Oper) : Bool :=
  (List.range ops.size).all fun j => j == i || l.getD j true || (match ops[j]? with
    | some oj => oj.after.toList.any (fun e => Region.binds .any e && e.on == i) || oi.apart ops oj
    | none => true)
def noSel (ops : Array Oper) : Bool := ops.toList.all fun o => match o.op with | .select _ _ => false | _ => true
/-- Operations that look at the memory and leave it. -/
def isRead (P : Program) (o : Oper) : Bool :=
  match o.op with
  | .load _ _ => true
  | .convert s t _ => (match P.underlying s, P.underlying t with | some (.slice _), some .string => true | _, _ => false)
  | _ => false
def isCall (o : Oper) : Bool := match o.op with | .call c => (match c.callee with | .value _ => true | _ => false) | _ => false
/-- Operations that only bring new memory, or fill what is owned. -/
def isGrow (o : Oper) : Bool :=
  match o.op with
  | .buildSlice _ _ _ => true
  | .call c => (match c.callee with | .builtin .append => true | _ => false)
  | _ => false
def mildOp (P : Program) (o : Oper) : Bool := stillOp P o || isRead P o || isCall o || isGrow o
def notObj : EV → Bool | .cv (.one (.val (.obj _ _))) => false | _ => true
/-- A look at what no call turns. -/
def readNow (P : Program) (fr : Fr) (o : Oper) : Bool := match o.op with | .load _ a => notObj (fr.opnd a) | _ => isRead P o
def freeR (P : Program) (ops : Array Oper) (l : List Bool) (i : Nat) (oi : Oper) : Bool :=
  (List.range ops.size).all fun j => j == i || l.getD j true || (match ops[j]? with
    | some oj => oj.after.toList.any (fun e => Region.binds .any e && e.on == i) || (oi.apart ops oj && mildOp P oj)
    | none => true)
/-- Looks at managed objects. -/
def isLook (o : Oper) : Bool := match o.op with | .load _ _ | .lookup _ _ _ _ => true | _ => false
/-- Operations that leave the memory as it is. -/
def quietOp (P : Program) (o : Oper) : Bool := stillOp P o || isRead P o || isLook o
def freeQ (P : Program) (ops : Array Oper) (l : List Bool) (i : Nat) (oi : Oper) : Bool :=
  (List.range ops.size).all fun j => j == i || l.getD j true || (match ops[j]? with
    | some oj => oj.after.toList.any (fun e => Region.binds .any e && e.on == i) || (oi.apart ops oj && quietOp P oj)
    | none => true)
def takeAt (P : Program) (ops : Array Oper) (l : List Bool) (fr : Fr) (i : Nat) : Bool :=
  match ops[i]? with | some o => (stillOp P o && freeAt ops l i o) || (readNow P fr o && freeR P ops l i o) || (isLook o && freeQ P ops l i o) | none => false

def anyK (C : Cfg) (A : Ann) (call : FuncId → List AVal → Heap → Tr Res) (ops : Array Oper) : Nat → List Bool → Fr → Heap → (Fr → Heap → Tr Res) → Tr Res
  | 0, l, fr, h, K => bif (readyL ops l).isEmpty then K fr h else .fail
  | n + 1, l, fr, h, K =>
    match readyL ops l with
    | [] => K fr h
    | i :: is =>
      (match (i :: is).find? (takeAt C.P ops l fr) with
      | some j => (match ops[j]? with | some o => oneK C A call ops o fr h fun fr h => anyK C A call ops n (l.set j true) fr h K | none => .fail)
      | none =>
        (match is with
        | [] => (match ops[i]? with | some o => oneK C A call ops o fr h fun fr h => anyK C A call ops n (l.set i true) fr h K | none => .fail)
        | is => Tr.anyL ((i :: is).map fun j => match ops[j]? with | some o => oneK C A call ops o fr h fun fr h => anyK C A call ops n (l.set j true) fr h K | none => .fail)))

/-- A region: chosen once. (A name of its own: so that nothing compares both roads.) -/
def opsS (C : Cfg) (A : Ann) (call : FuncId → List AVal → Heap → Tr Res) (ops : Array Oper) (fr : Fr) (h : Heap) (K : Fr → Heap → Tr Res) : Tr Res :=
  match A.xs with
  | [] => opsK C A call ops ops.toList fr h K
  | _ :: _ => opsX C A call ops ops.toList fr h K
def anyS (C : Cfg) (A : Ann) (call : FuncId → List AVal → Heap → Tr Res) (ops : Array Oper) (fr : Fr) (h : Heap) (K : Fr → Heap → Tr Res) : Tr Res :=
  match A.xs with
  | [] => anyK C A call ops ops.size (List.replicate ops.size false) fr h K
  | _ :: _ => frzL (ops.toList.flatMap fun o => opsOf o.op) fr fun fr => anyK C A call ops ops.size (List.replicate ops.size false) fr h K

inductive Ex where
  | normal
  | exit (id : Nat)
  | goto (l : Nat)
  | ret

def seqK (next : Fr → Heap → Tr Res) (K : Ex → Fr → Heap → Tr Res) (e : Ex) (fr : Fr) (h : Heap) : Tr Res :=
  match e with
  | .normal => next fr h
  | e => K e fr h
def loopK (ks : Fr → Fr) (body : Fr → Heap → (Ex → Fr → Heap → Tr Res) → Tr Res) : Nat → Fr → Heap → (Ex → Fr → Heap → Tr Res) → Tr Res
  | 0, _, _, _ => .fail
  | n + 1, fr, h, K => body fr h (seqK (fun fr h => loopK ks body n (ks fr) h K) K)

def blockK (id : Nat) (K : Ex → Fr → Heap → Tr Res) (e : Ex) (fr : Fr) (h : Heap) : Tr Res :=
  match e with
  | .exit i => bif i == id then K .normal fr h else K (.exit i) fr h
  | e => K e fr h
def scopeK (A : Ann) (again : Code → Code → Fr → Heap → (Ex → Fr → Heap → Tr Res) → Tr Res) (body : Code) (K : Ex → Fr → Heap → Tr Res) (e : Ex) (fr : Fr) (h : Heap) : Tr Res :=
  match e with
  | .goto l => (match findLabel body l with | some rest => again rest body (keepAt A rest fr) h K | none => K (.goto l) fr h)
  | e => K e fr h

/-- As many rounds as are wanted. (By choice: so that no reduction counts them down.) -/
noncomputable def rounds : Nat := Classical.choose (⟨4611686018427387904, Nat.le_refl _⟩ : ∃ n : Nat, 4611686018427387904 ≤ n)
theorem rounds_ge : 4611686018427387904 ≤ rounds := Classical.choose_spec (⟨4611686018427387904, Nat.le_refl _⟩ : ∃ n : Nat, 4611686018427387904 ≤ n)

/-- A place where branches meet: no reduction goes on past it. -/
noncomputable def hold {α : Type} (x : α) : α := Nat.rec x (fun _ r => r) rounds
theorem hold_eq {α : Type} (x : α) : hold x = x := by
  unfold hold
  generalize rounds = n
  induction n with
  | zero => rfl
  | succ n ih => exact ih
noncomputable def joinK (A : Ann) (c : Code) (x : Tr Res) : Tr Res :=
  match firstRegion c with
  | some id => bif A.join.contains id then hold x else x
  | none => x
theorem joinK_eq (A : Ann) (c : Code) (x : Tr Res) : joinK A c x = x := by
  unfold joinK
  split
  · cases A.join.contains _
    · rfl
    · exact hold_eq x
  · rfl

noncomputable def codeK (C : Cfg) (A : Ann) (call : FuncId → List AVal → Heap → Tr Res) (again : Code → Code → Fr → Heap → (Ex → Fr → Heap → Tr Res) → Tr Res) :
    Code → Fr → Heap → (Ex → Fr → Heap → Tr Res) → Tr Res
  | .skip, fr, h, K => K .normal fr h
  | .label _, fr, h, K => K .normal fr h
  | .region _ ops draw, fr, h, K => bif draw then (bif noSel ops then anyS C A call ops fr h (K .normal) else .fail) else opsS C A call ops fr h (K .normal)
  | .seq a b, fr, h, K => codeK C A call again a fr h (seqK (fun fr h => joinK A b (codeK C A call again b (keepAt A b fr) h K)) K)
  | .cond c a b, fr, h, K =>
    (match fr.opnd c with
    | .cv (.one (.val (.bool t))) => bif t then codeK C A call again a fr h K else codeK C A call again b fr h K
    | _ => .fail)
  | .block id c, fr, h, K => codeK C A call again c fr h (blockK id K)
  | .loop c, fr, h, K => loopK (keepAt A c) (codeK C A call again c) rounds (keepAt A c fr) h K
  | .exit id, fr, h, K => K (.exit id) fr h
  | .goto l, fr, h, K => K (.goto l) fr h
  | .ret, fr, h, K => K .ret fr h
  | .scope c, fr, h, K => codeK C A call again c fr h (scopeK A again c K)
  | _, _, _, _ => .fail

/-- From a label on. -/
noncomputable def againK (C : Cfg) (A : Ann) (call : FuncId → List AVal → Heap → Tr Res) : Nat → Code → Code → Fr → Heap → (Ex → Fr → Heap → Tr Res) → Tr Res
  | 0, _, _, _, _, _ => .fail
  | n + 1, rest, body, fr, h, K => codeK C A call (againK C A call n) rest fr h (scopeK A (againK C A call n) body K)

/-- The results. -/
def outK (l : List Nat) (i : Nat) (x : EV) (K : AVal → List (Nat × Nat) → Tr Res) : Tr Res :=
  optK x.toA fun a =>
    bif l.contains i then
      (match x with
      | .cv (.one (.own g _ _)) => K a [(i, g)]
      | .cv (.one (.val (.sl true _ _))) => K a []
      | _ => .fail)
    else K a []
def outsK (P : Program) (l : List Nat) (fr : Fr) (h : Heap) : Nat → List ResultVar → (List AVal → List (Nat × Nat) → Tr Res) → Tr Res
  | _, [], K => K [] []
  | i, .tmp t :: r, K => outK l i (fr.get t) fun a ts => outsK P l fr h (i + 1) r fun as us => K (a :: as) (ts ++ us)
  | i, .cell a t :: r, K => loadK P t (fr.get a) fr h fun x => outK l i x fun a ts => outsK P l fr h (i + 1) r fun as us => K (a :: as) (ts ++ us)

def retK (P : Program) (A : Ann) (fn : Func) (e : Ex) (fr : Fr) (h : Heap) : Tr Res :=
  match e with
  | .normal | .ret => outsK P A.rown fr h 0 fn.results.toList fun as ts => bif nodup (ts.map (·.1)) && nodup (ts.map (·.2)) then .ret (as, h) else .fail
  | _ => .fail

def paramsOf (l : List Nat) : Nat → List AVal → List (Nat × EV)
  | _, [] => []
  | i, v :: r => (i, .cv (cvIn (l.contains i) (tokOf i 0) v)) :: paramsOf l (i + 1) r

noncomputable def evFn (C : Cfg) : Nat → FuncId → List AVal → Heap → Tr Res
  | 0, _, _, _ => .fail
  | d + 1, f, args, h =>
    match C.ext f with
    | some g => g args h
    | none =>
      match C.P.funcs[f]? with
      | none => .fail
      | some fn =>
        match fn.body with
        | none => .fail
        | some c => codeK C (C.ann f) (evFn C d) (againK C (C.ann f) (evFn C d) rounds) c (keepAt (C.ann f) c ⟨paramsOf (C.ann f).pown 0 args, []⟩) h (retK C.P (C.ann f) fn)

end
end Go.Weave
