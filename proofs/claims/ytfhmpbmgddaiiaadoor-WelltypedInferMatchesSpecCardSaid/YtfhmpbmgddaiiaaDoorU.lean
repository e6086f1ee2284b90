/- Short names. -/
import Derived.Test.YtfhmpbmgddaiiaaDoorProg
namespace Go.Proofs.YtfhmpbmgddaiiaaDoor
abbrev U3 := @Tryd.underlying3
abbrev U4 := @Tryd.underlying4
abbrev U5 := @Tryd.underlying5
abbrev U9 := @Tryd.underlying9
abbrev U22 := @Tryd.underlying22
abbrev U23 := @Tryd.underlying23
abbrev U25 := @Tryd.underlying25
abbrev U26 := @Tryd.underlying26
abbrev U28 := @Tryd.underlying28
abbrev U30 := @Tryd.underlying30
abbrev U31 := @Tryd.underlying31
abbrev U33 := @Tryd.underlying33
abbrev U35 := @Tryd.underlying35
abbrev U46 := @Tryd.underlying46
abbrev U52 := @Tryd.underlying52
abbrev U54 := @Tryd.underlying54
abbrev U61 := @Tryd.underlying61
abbrev U63 := @Tryd.underlying63
abbrev U72 := @Tryd.underlying72
abbrev U73 := @Tryd.underlying73
abbrev U77 := @Tryd.underlying77
end Go.Proofs.YtfhmpbmgddaiiaaDoor
