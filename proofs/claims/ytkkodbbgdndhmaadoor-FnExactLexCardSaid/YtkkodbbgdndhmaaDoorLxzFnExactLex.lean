/- The contract of impl.pieceOf. -/
import Derived.Test.YtkkodbbgdndhmaaDoorLxz1FnExactLex
import Derived.Test.YtkkodbbgdndhmaaDoorLxz2FnExactLex
import Derived.Test.YtkkodbbgdndhmaaDoorLxz3FnExactLex
namespace Go.Proofs.YtkkodbbgdndhmaaDoor.LxFnExactLex
open Go.RowKit Go.Proofs.YtkkodbbgdndhmaaDoor.QFnExactLex Go.Proofs.YtkkodbbgdndhmaaDoorW.PrintWords

theorem piece_c : PieceC := fun A c l w hr hc hl hby hL => by
  by_cases hw : Word l
  · exact piece_word A c l w hr hc hl hby hL hw
  · cases hp : Lib.hasPrefix (Lib.bytesOf l) [48, 102] with
    | false => exact piece_int A c l w hr hc hl hby hL hw hp
    | true => exact piece_hex A c l w hr hc hl hby hL hw hp

end Go.Proofs.YtkkodbbgdndhmaaDoor.LxFnExactLex
