/- Short names. -/
import Derived.Test.YteoncmfiiknfbaaDoorProg
namespace Go.Proofs.YteoncmfiiknfbaaDoor
abbrev U3 := @Tryd.underlying3
abbrev U4 := @Tryd.underlying4
abbrev U5 := @Tryd.underlying5
abbrev U9 := @Tryd.underlying9
abbrev U22 := @Tryd.underlying22
abbrev U23 := @Tryd.underlying23
abbrev U25 := @Tryd.underlying25
abbrev U26 := @Tryd.underlying26
abbrev U28 := @Tryd.underlying28
abbrev U30 := @Tryd.underlying30
abbrev U51 := @Tryd.underlying51
abbrev U53 := @Tryd.underlying53
abbrev U55 := @Tryd.underlying55
abbrev U58 := @Tryd.underlying58
abbrev U60 := @Tryd.underlying60
abbrev U62 := @Tryd.underlying62
abbrev U64 := @Tryd.underlying64
abbrev U70 := @Tryd.underlying70
abbrev U72 := @Tryd.underlying72
abbrev U74 := @Tryd.underlying74
abbrev U93 := @Tryd.underlying93
abbrev U101 := @Tryd.underlying101
abbrev U102 := @Tryd.underlying102
abbrev U111 := @Tryd.underlying111
end Go.Proofs.YteoncmfiiknfbaaDoor
