/- The pieces of pairs by definition: said as a contract. -/
import Derived.Test.YtkpjkaikeeldfaaDoorWvB
namespace Go.Weave
def encS (n : Nat) : List UInt8 := if n < 128 then [UInt8.ofNat n] else [UInt8.ofNat (n % 128 + 128), UInt8.ofNat (n / 128)]
def pkS (f : List UInt8) : List UInt8 := encS f.length ++ f
def pkP (p : List UInt8 × List UInt8) : List UInt8 := pkS p.1 ++ pkS p.2
def stepS (P : List (List UInt8)) (b : List UInt8) : List (List UInt8) :=
  match P.getLast? with
  | some x => if x.length + b.length ≤ 400 then P.dropLast ++ [x ++ b] else P ++ [b]
  | none => [b]
def splitS (l : List (List UInt8 × List UInt8)) : List (List UInt8) := l.foldl (fun P p => stepS P (pkP p)) []
def decP2 : List AVal → Option (List (List UInt8 × List UInt8))
  | [] => some []
  | .agg [.str k, .str v] :: r => match decP2 r with | some l => some ((k, v) :: l) | none => none
  | _ :: _ => none
def okP (l : List (List UInt8 × List UInt8)) : Bool := (l.all fun p => decide (p.1.length ≤ 24) && decide (p.2.length ≤ 128)) && decide (l.length ≤ 100)
def bysA (l : List UInt8) : List AVal := l.map fun b => .int .u8 (b.toNat : Int)
def splitG (args : List AVal) (H : Heap) : Tr Res :=
  match args with
  | [.sl _ 3 es] => (match decP2 es with
    | some L => bif okP L then .ret ([.sl false 0 ((splitS L).map fun b => .sl false 0 (bysA b))], H) else .fail
    | none => .fail)
  | _ => .fail
end Go.Weave
