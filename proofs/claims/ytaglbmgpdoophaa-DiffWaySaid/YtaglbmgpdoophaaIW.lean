/- maps.Clone, in the words of the walks. -/
import Derived.Test.YtaglbmgpdoophaaZ
import Derived.Test.YtaglbmgpdoophaaIC
import Derived.KernelRfl
namespace Go.Proofs.Ytaglbmgpdoophaa.A
open Go Go.RowKit Go.Maps Go.Shelf
theorem clone65 {es : List (Value × AV)} {b : Nat} {fl : Bool} : AC Try.prog 65 [.v (.map (some b))] [⟨b, fl, .map es⟩] (fun r n => ∃ b', r = .v (.map (some b')) ∧ n = [⟨b', true, .map es⟩]) :=
  ac_clone (fun ents clock w hb => AnyW.maps_Clone Try.cloneK65 b ents clock w hb)
end Go.Proofs.Ytaglbmgpdoophaa.A
