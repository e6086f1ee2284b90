/- Short names. -/
import Derived.Test.YtegngekpmpdngaaDoorProg
namespace Go.Proofs.YtegngekpmpdngaaDoor
abbrev U3 := @Tryd.underlying3
abbrev U4 := @Tryd.underlying4
abbrev U5 := @Tryd.underlying5
abbrev U9 := @Tryd.underlying9
abbrev U22 := @Tryd.underlying22
abbrev U23 := @Tryd.underlying23
abbrev U25 := @Tryd.underlying25
abbrev U35 := @Tryd.underlying35
abbrev U43 := @Tryd.underlying43
abbrev U63 := @Tryd.underlying63
abbrev U77 := @Tryd.underlying77
abbrev U81 := @Tryd.underlying81
abbrev U82 := @Tryd.underlying82
abbrev U83 := @Tryd.underlying83
abbrev U90 := @Tryd.underlying90
abbrev U92 := @Tryd.underlying92
abbrev U122 := @Tryd.underlying122
end Go.Proofs.YtegngekpmpdngaaDoor
