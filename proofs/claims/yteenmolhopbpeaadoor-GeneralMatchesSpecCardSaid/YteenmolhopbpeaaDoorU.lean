/- Short names. -/
import Derived.Test.YteenmolhopbpeaaDoorProg
namespace Go.Proofs.YteenmolhopbpeaaDoor
abbrev U3 := @Tryd.underlying3
abbrev U4 := @Tryd.underlying4
abbrev U5 := @Tryd.underlying5
abbrev U9 := @Tryd.underlying9
abbrev U22 := @Tryd.underlying22
abbrev U23 := @Tryd.underlying23
abbrev U25 := @Tryd.underlying25
abbrev U26 := @Tryd.underlying26
abbrev U28 := @Tryd.underlying28
abbrev U30 := @Tryd.underlying30
abbrev U36 := @Tryd.underlying36
abbrev U37 := @Tryd.underlying37
abbrev U39 := @Tryd.underlying39
abbrev U47 := @Tryd.underlying47
abbrev U49 := @Tryd.underlying49
abbrev U55 := @Tryd.underlying55
abbrev U56 := @Tryd.underlying56
abbrev U61 := @Tryd.underlying61
abbrev U63 := @Tryd.underlying63
abbrev U64 := @Tryd.underlying64
abbrev U75 := @Tryd.underlying75
abbrev U81 := @Tryd.underlying81
abbrev U95 := @Tryd.underlying95
end Go.Proofs.YteenmolhopbpeaaDoor
