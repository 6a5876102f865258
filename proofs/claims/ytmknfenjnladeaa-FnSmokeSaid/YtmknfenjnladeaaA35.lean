/- A part of a run of code, by itself. -/
import Derived.Test.YtmknfenjnladeaaA34
namespace Go.Ab

end Go.Ab
