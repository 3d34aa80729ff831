/- Sorted keys of maps, in the words of the walks. -/
import Derived.Test.YtpoacfbobalpkaaM
import Derived.Test.YtpoacfbobalpkaaIT
import Derived.KernelRfl
namespace Go.Proofs.Ytpoacfbobalpkaa.A
open Go Go.RowKit Go.Maps Go.Sort Go.Shelf
theorem sorts46 (m : Nat) : AnyZ.SortsIn Try.prog Try.sorted46_ren Fence.wide m :=
  ⟨fun blk off cap ss W hH hblk hsz => callsIn_wide.2 (AnyM.slices_Sort_string Try.sort50 blk off cap ss W hH hblk hsz), fun p cap W => callsIn_wide.2 (AnyM.slices_Sort_string_none Try.sort50 p cap W)⟩
theorem keys47 : KeysAs Try.prog 47 51 71 := fun mb W => (callsIn_wide (n := 5)).1 (AnyZ.keys_in Try.keys47 Fence.wide 5 trivial rfl mb W)
theorem sorted46_47 : SortsIt Try.prog 46 51 9 := fun g b nn D0 R w hg hc hown hmax hbytes =>
  (callsIn_wide (n := 5)).1 (AnyZ.sorted_in Try.sorted46 Fence.wide 5 trivial trivial trivial trivial rfl (by omega) (sorts46 _) (enters_of (f := 50) Try.func50 (by kernel_rfl) rfl) 51 #[.pointer (some ⟨g, 0, none⟩)] trivial (enters_of (f := 51) Try.func51 (by kernel_rfl) rfl) _ _ hmax hbytes _
    (AnyZ.keys_gives (ρ := Try.keys47_ren) { Try.keys47 with } Fence.wide _ trivial rfl (by omega) g b nn D0 w hg hc hown))
theorem keys48 : KeysAs Try.prog 48 52 53 := fun mb W => (callsIn_wide (n := 5)).1 (AnyZ.keys_in Try.keys48 Fence.wide 5 trivial rfl mb W)
theorem sorted46_48 : SortsIt Try.prog 46 52 9 := fun g b nn D0 R w hg hc hown hmax hbytes =>
  (callsIn_wide (n := 5)).1 (AnyZ.sorted_in Try.sorted46 Fence.wide 5 trivial trivial trivial trivial rfl (by omega) (sorts46 _) (enters_of (f := 50) Try.func50 (by kernel_rfl) rfl) 52 #[.pointer (some ⟨g, 0, none⟩)] trivial (enters_of (f := 52) Try.func52 (by kernel_rfl) rfl) _ _ hmax hbytes _
    (AnyZ.keys_gives (ρ := Try.keys48_ren) { Try.keys48 with } Fence.wide _ trivial rfl (by omega) g b nn D0 w hg hc hown))
end Go.Proofs.Ytpoacfbobalpkaa.A
