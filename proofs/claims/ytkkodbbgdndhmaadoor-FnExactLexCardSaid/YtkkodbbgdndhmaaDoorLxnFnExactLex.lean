/- The contract of impl.nextToken. -/
import Derived.Test.YtkkodbbgdndhmaaDoorLxyFnExactLex
import Derived.Test.YtkkodbbgdndhmaaDoorLexDFnExactLex
import Derived.Test.YtkkodbbgdndhmaaDoorLxn1FnExactLex
import Derived.Test.YtkkodbbgdndhmaaDoorLxn2FnExactLex
import Derived.Test.YtkkodbbgdndhmaaDoorLxn3FnExactLex
import Derived.Test.YtkkodbbgdndhmaaDoorLxzFnExactLex
namespace Go.Proofs.YtkkodbbgdndhmaaDoor.LxFnExactLex
open Go.RowKit Go.Proofs.YtkkodbbgdndhmaaDoor.QFnExactLex Go.Proofs.YtkkodbbgdndhmaaDoorW.PrintWords Go.Proofs.YtkkodbbgdndhmaaDoorW.PrintLast Go.Proofs.YtkkodbbgdndhmaaDoor.LexA Go.Proofs.YtkkodbbgdndhmaaDoor.Fw
set_option linter.unusedSimpArgs false
set_option linter.unusedVariables false

theorem next_c (A : Option Addr) (c : Nat) (l : List Int) (w : World) (hr : Kd.C (Kd.int .u8) w A l.length l) (hc : l.length ≤ c) (h0 : 0 < l.length) (hl : l.length ≤ 6000) (hby : Byt l) (hL : LW w) :
    Calls Tryd.prog 17 #[.slice A l.length c] w (NextV l w) := by
  by_cases h45 : l.getD 0 0 = 45
  · by_cases h : 1 < l.length ∧ digitB (l.getD 1 0) = true
    · exact next_minus piece_c A c l w hr hc h0 hl hby hL h45 h.1 h.2
    · exact next_dash piece_c A c l w hr hc h0 hl hby hL h45 h
  · exact next_plain piece_c A c l w hr hc h0 hl hby hL h45

end Go.Proofs.YtkkodbbgdndhmaaDoor.LxFnExactLex
