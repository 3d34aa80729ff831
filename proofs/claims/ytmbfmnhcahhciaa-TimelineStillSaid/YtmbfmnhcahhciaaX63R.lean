/- Layer 63: what the statements hand in, read. -/
import Derived.Test.YtmbfmnhcahhciaaProg
import Derived.KernelRfl
import Derived.Test.YtmbfmnhcahhciaaX63S
import Derived.Test.YtmbfmnhcahhciaaAA
namespace Go.Proofs.Ytmbfmnhcahhciaa.A
open Go Go.RowKit
set_option linter.unusedVariables false
set_option linter.unusedSimpArgs false
set_option maxRecDepth 100000

theorem TR.sl22 : sliceT Try.prog 22 = some 30 := by kernel_rfl
theorem TR.sz30 : szT Try.prog 30 = some 1 := by kernel_rfl
theorem TR.un30 : Try.prog.underlying 30 = some (.int .u64) := by kernel_rfl
theorem TR.f38_0 : fieldT Try.prog 38 0 = some (0, 4) := by kernel_rfl
theorem TR.f38_1 : fieldT Try.prog 38 1 = some (1, 35) := by kernel_rfl
theorem TR.f38_2 : fieldT Try.prog 38 2 = some (5, 36) := by kernel_rfl
theorem TR.sz38 : szT Try.prog 38 = some 9 := by kernel_rfl
theorem TR.sz4 : szT Try.prog 4 = some 1 := by kernel_rfl
theorem TR.sz35 : szT Try.prog 35 = some 4 := by kernel_rfl
theorem TR.sz36 : szT Try.prog 36 = some 4 := by kernel_rfl
theorem TR.un4 : Try.prog.underlying 4 = some .bool := by kernel_rfl
theorem TR.un35 : Try.prog.underlying 35 = some (.array 4 34) := by kernel_rfl
theorem TR.sz34 : szT Try.prog 34 = some 1 := by kernel_rfl
theorem TR.un34 : Try.prog.underlying 34 = some (.int .i8) := by kernel_rfl
theorem TR.un36 : Try.prog.underlying 36 = some (.array 4 5) := by kernel_rfl
theorem TR.sz5 : szT Try.prog 5 = some 1 := by kernel_rfl
theorem TR.un5 : Try.prog.underlying 5 = some (.int .u8) := by kernel_rfl
theorem TR.sl23 : sliceT Try.prog 23 = some 38 := by kernel_rfl
theorem TR.sl42 : sliceT Try.prog 42 = some 5 := by kernel_rfl
theorem TR.f44_0 : fieldT Try.prog 44 0 = some (0, 3) := by kernel_rfl
theorem TR.f44_1 : fieldT Try.prog 44 1 = some (1, 9) := by kernel_rfl
theorem TR.f44_2 : fieldT Try.prog 44 2 = some (2, 9) := by kernel_rfl
theorem TR.f44_3 : fieldT Try.prog 44 3 = some (3, 42) := by kernel_rfl
theorem TR.sz44 : szT Try.prog 44 = some 4 := by kernel_rfl
theorem TR.sz3 : szT Try.prog 3 = some 1 := by kernel_rfl
theorem TR.sz9 : szT Try.prog 9 = some 1 := by kernel_rfl
theorem TR.sz42 : szT Try.prog 42 = some 1 := by kernel_rfl
theorem TR.un3 : Try.prog.underlying 3 = some (.int .i64) := by kernel_rfl
theorem TR.un9 : Try.prog.underlying 9 = some .string := by kernel_rfl
theorem TR.f46_0 : fieldT Try.prog 46 0 = some (0, 30) := by kernel_rfl
theorem TR.f46_1 : fieldT Try.prog 46 1 = some (1, 44) := by kernel_rfl
theorem TR.sz46 : szT Try.prog 46 = some 5 := by kernel_rfl
theorem TR.sl28 : sliceT Try.prog 28 = some 46 := by kernel_rfl

theorem rd_nums : RD Try.prog 22 (fun l : List Int => [numsA l]) (fun _ => True) := RD.map (rd_slice TR.sl22 TR.sz30 (rd_int TR.un30) (fun _ => rfl)) id (fun a _ => ⟨trivial, rfl⟩)
theorem i8_bnd {n : Int} (h : IntKind.min .i8 ≤ n ∧ n ≤ IntKind.max .i8) : -128 ≤ n ∧ n ≤ 127 := h
theorem rd_disk : RD Try.prog 38 Disk.cs OkD :=
  RD.map (rd_struct3 TR.f38_0 TR.f38_1 TR.f38_2 TR.sz38 TR.sz4 TR.sz35 TR.sz36 (rd_bool TR.un4) (rd_arr4 TR.un35 TR.sz34 TR.sz35 (rd_int TR.un34)) (rd_arr4 TR.un36 TR.sz5 TR.sz36 (rd_u8 TR.un5))) (fun a => (⟨a.1, a.2.1.1, a.2.1.2.1, a.2.1.2.2.1, a.2.1.2.2.2, a.2.2.1, a.2.2.2.1, a.2.2.2.2.1, a.2.2.2.2.2⟩ : Disk))
    (fun a h => ⟨fun i => by
      obtain ⟨_, ⟨h0, h1, h2, h3⟩, _⟩ := h
      match i with
      | 0 => exact i8_bnd h0
      | 1 => exact i8_bnd h1
      | 2 => exact i8_bnd h2
      | n + 3 => exact i8_bnd h3, rfl⟩)
theorem rd_disks : RD Try.prog 23 (fun l : List Disk => [disksA l]) (fun l => ∀ d ∈ l, OkD d) := RD.map (rd_slice TR.sl23 TR.sz38 rd_disk (fun _ => rfl)) id (fun a h => ⟨h, rfl⟩)

theorem rd_bts : RD Try.prog 42 (fun l : List UInt8 => [bts l]) (fun _ => True) := RD.map (rd_slice TR.sl42 TR.sz5 (rd_u8 TR.un5) (fun _ => rfl)) id (fun a _ => ⟨trivial, rfl⟩)
theorem rd_fc : RD Try.prog 44 FC.cs (fun _ => True) := RD.map (rd_struct4 TR.f44_0 TR.f44_1 TR.f44_2 TR.f44_3 TR.sz44 TR.sz3 TR.sz9 TR.sz9 TR.sz42 (rd_int TR.un3) (rd_str TR.un9) (rd_str TR.un9) rd_bts) (fun a => (⟨a.1, a.2.1, a.2.2.1, a.2.2.2⟩ : FC)) (fun a _ => ⟨trivial, rfl⟩)
theorem rd_ev : RD Try.prog 46 Ev.cs (fun _ => True) := RD.map (rd_struct2 TR.f46_0 TR.f46_1 TR.sz46 TR.sz30 TR.sz44 (rd_int TR.un30) rd_fc) (fun a => (⟨a.1, a.2⟩ : Ev)) (fun a _ => ⟨trivial, rfl⟩)
theorem rd_evs : RD Try.prog 28 (fun l : List Ev => [evsA l]) (fun _ => True) := RD.map (rd_slice TR.sl28 TR.sz46 rd_ev (fun _ => rfl)) id (fun a _ => ⟨trivial, rfl⟩)

end Go.Proofs.Ytmbfmnhcahhciaa.A
