/- Sorted keys of maps, in the words of the walks. -/
import Derived.Test.YtnbnegkdbjdekaaM
import Derived.Test.YtnbnegkdbjdekaaIT
import Derived.KernelRfl
namespace Go.Proofs.Ytnbnegkdbjdekaa.A
open Go Go.RowKit Go.Maps Go.Sort Go.Shelf
theorem sorts43 (m : Nat) : AnyZ.SortsIn Try.prog Try.sorted43_ren Fence.wide m :=
  ⟨fun blk off cap ss W hH hblk hsz => callsIn_wide.2 (AnyM.slices_Sort_string Try.sort48 blk off cap ss W hH hblk hsz), fun p cap W => callsIn_wide.2 (AnyM.slices_Sort_string_none Try.sort48 p cap W)⟩
theorem keys44 : KeysAs Try.prog 44 49 55 := fun mb W => (callsIn_wide (n := 5)).1 (AnyZ.keys_in Try.keys44 Fence.wide 5 trivial rfl mb W)
theorem sorted43_44 : SortsIt Try.prog 43 49 9 := fun g b nn D0 R w hg hc hown hmax hbytes =>
  (callsIn_wide (n := 5)).1 (AnyZ.sorted_in Try.sorted43 Fence.wide 5 trivial trivial trivial trivial rfl (by omega) (sorts43 _) (enters_of (f := 48) Try.func48 (by kernel_rfl) rfl) 49 #[.pointer (some ⟨g, 0, none⟩)] trivial (enters_of (f := 49) Try.func49 (by kernel_rfl) rfl) _ _ hmax hbytes _
    (AnyZ.keys_gives (ρ := Try.keys44_ren) { Try.keys44 with } Fence.wide _ trivial rfl (by omega) g b nn D0 w hg hc hown))
end Go.Proofs.Ytnbnegkdbjdekaa.A
