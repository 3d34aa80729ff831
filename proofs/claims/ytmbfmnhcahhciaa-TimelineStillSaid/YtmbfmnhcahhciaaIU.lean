/- Sorted keys of maps, in the words of the walks. -/
import Derived.Test.YtmbfmnhcahhciaaM
import Derived.Test.YtmbfmnhcahhciaaIT
import Derived.KernelRfl
namespace Go.Proofs.Ytmbfmnhcahhciaa.A
open Go Go.RowKit Go.Maps Go.Sort Go.Shelf
theorem sorts56 (m : Nat) : AnyZ.SortsIn Try.prog Try.sorted56_ren Fence.wide m :=
  ⟨fun blk off cap ss W hH hblk hsz => callsIn_wide.2 (AnyM.slices_Sort_string Try.sort62 blk off cap ss W hH hblk hsz), fun p cap W => callsIn_wide.2 (AnyM.slices_Sort_string_none Try.sort62 p cap W)⟩
theorem keys57 : KeysAs Try.prog 57 63 72 := fun mb W => (callsIn_wide (n := 5)).1 (AnyZ.keys_in Try.keys57 Fence.wide 5 trivial rfl mb W)
theorem sorted56_57 : SortsIt Try.prog 56 63 9 := fun g b nn D0 R w hg hc hown hmax hbytes =>
  (callsIn_wide (n := 5)).1 (AnyZ.sorted_in Try.sorted56 Fence.wide 5 trivial trivial trivial trivial rfl (by omega) (sorts56 _) (enters_of (f := 62) Try.func62 (by kernel_rfl) rfl) 63 #[.pointer (some ⟨g, 0, none⟩)] trivial (enters_of (f := 63) Try.func63 (by kernel_rfl) rfl) _ _ hmax hbytes _
    (AnyZ.keys_gives (ρ := Try.keys57_ren) { Try.keys57 with } Fence.wide _ trivial rfl (by omega) g b nn D0 w hg hc hown))
end Go.Proofs.Ytmbfmnhcahhciaa.A
