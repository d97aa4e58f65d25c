/- What a program's table of locks tells of a holder: its keys, sorted: said as a contract. -/
import Derived.Test.YtdlcjibefbnckaaWvB
namespace Go.Weave
def decL : List (AVal × AVal × Nat) → Option (List (List UInt8 × Int × Nat))
  | [] => some []
  | (.agg [.str s], .int .i64 n, b) :: r => match decL r with | some l => some ((s, n, b) :: l) | none => none
  | _ :: _ => none
def okL (L : List (List UInt8 × Int × Nat)) (c : Nat) : Bool := decide ((L.map (·.2.2)).Nodup) && (L.all (fun x => decide (x.2.2 < c)) && decide (L.length ≤ 1000000))
def srtS (l : List (List UInt8)) : List (List UInt8) := l.mergeSort fun x y => decide (x ≤ y)
def hLs (L : List (List UInt8 × Int × Nat)) (who : Int) : List (List UInt8) := (L.filter (fun x => x.2.1 == who)).map (·.1)
def heldM (who : Int) (H : Heap) (m : Nat) : Tr Res :=
  match H.objs[m]? with
  | some (.map _ es c) => (match decL es with
    | some L => bif okL L c then .ret ([.sl false 0 ((srtS (hLs L who)).map AVal.str)], H) else .fail
    | none => .fail)
  | _ => .fail
def heldG (args : List AVal) (H : Heap) : Tr Res :=
  match args with
  | [.nilp, .int .i64 _] => .ret ([.sl true 0 []], H)
  | [.obj id 0, .int .i64 who] => (match H.cell? id 0 with
    | some (.val (.map m)) => heldM who H m
    | _ => .fail)
  | _ => .fail
end Go.Weave
