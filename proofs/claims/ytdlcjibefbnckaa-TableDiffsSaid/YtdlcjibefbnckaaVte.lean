/- TreePlays. -/
import Derived.Test.YtdlcjibefbnckaaVtd
namespace Go.Proofs.Ytdlcjibefbnckaa.Wa
open Go Go.Weave
set_option maxRecDepth 100000
set_option linter.unusedSimpArgs false
set_option linter.unusedVariables false
set_option linter.unusedSectionVars false

def kops (l : List KOp) : List AVal := l.map fun x => KOp.A x
theorem kops_length (l : List KOp) : (kops l).length = l.length := by simp [kops]
theorem kops_getD {l : List KOp} {i : Nat} (h : i < l.length) : (kops l).getD i AVal.undef = .agg [.int .i64 l[i].kind, .str l[i].key, .str l[i].val] := by simp [kops, h, KOp.A, KOp.C]
def strs (l : List (List UInt8)) : List AVal := l.map fun x => AVal.str x
theorem strs_length (l : List (List UInt8)) : (strs l).length = l.length := by simp [strs]
theorem strs_getD {l : List (List UInt8)} {i : Nat} (h : i < l.length) : (strs l).getD i AVal.undef = .str l[i] := by simp [strs, h]
theorem ldel_len_le (k : List UInt8) (l : List KPair) : (ldel k l).length ≤ l.length := List.length_filter_le _ _
theorem lput_len_le {k v : List UInt8} {l : List KPair} (hs : Srt l) : (lput k v l).length ≤ l.length + 1 := by
  cases h : (lget k l).isSome
  · rw [lput_len_new hs h]; omega
  · rw [lput_len_old hs h]; omega
end Go.Proofs.Ytdlcjibefbnckaa.Wa
