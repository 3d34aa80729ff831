/- Layer 66: what the statements hand in, read. -/
import Derived.Test.YtpoacfbobalpkaaProg
import Derived.KernelRfl
import Derived.Test.YtpoacfbobalpkaaX66D
import Derived.Test.YtpoacfbobalpkaaK
namespace Go.Proofs.Ytpoacfbobalpkaa.A
open Go Go.RowKit
set_option linter.unusedVariables false
set_option linter.unusedSimpArgs false
set_option maxRecDepth 100000

theorem T.un30 : Try.prog.underlying 30 = some (.int .u64) := by kernel_rfl

theorem rd_bts : RD Try.prog 31 (fun l : List UInt8 => [bts l]) (fun _ => True) := RD.map (rd_slice T.sl31 T.sz5 (rd_u8 T.un5) (fun _ => rfl)) id (fun a _ => ⟨trivial, rfl⟩)
theorem rd_choice : RD Try.prog 40 Choice.cs (fun _ => True) :=
  RD.map (rd_struct4 T.f40_0 T.f40_1 T.f40_2 T.f40_3 T.sz40 T.sz9 T.sz30 T.sz4 T.sz31 (rd_str T.un9) (rd_int T.un30) (rd_bool T.un4) rd_bts) (fun a => (⟨a.1, a.2.1, a.2.2.1, a.2.2.2⟩ : Choice)) (fun a _ => ⟨trivial, rfl⟩)
theorem rd_choices : RD Try.prog 34 (fun l : List Choice => [choicesA l]) (fun _ => True) := RD.map (rd_slice T.sl34 T.sz40 rd_choice (fun _ => rfl)) id (fun a _ => ⟨trivial, rfl⟩)
theorem rd_file : RD Try.prog 51 File.cs (fun _ => True) :=
  RD.map (rd_struct2 T.f51_0 T.f51_1 T.sz51 T.sz9 T.sz31 (rd_str T.un9) rd_bts) (fun a => (⟨a.1, a.2⟩ : File)) (fun a _ => ⟨trivial, rfl⟩)
theorem rd_files : RD Try.prog 44 (fun l : List File => [files l]) (fun _ => True) := RD.map (rd_slice T.sl44 T.sz51 rd_file (fun _ => rfl)) id (fun a _ => ⟨trivial, rfl⟩)
theorem rd_moment : RD Try.prog 57 Moment.cs (fun _ => True) :=
  RD.map (rd_struct3 T.f57_0 T.f57_1 T.f57_2 T.sz57 T.sz30 T.sz4 T.sz44 (rd_int T.un30) (rd_bool T.un4) rd_files) (fun a => (⟨a.1, a.2.1, a.2.2⟩ : Moment)) (fun a _ => ⟨trivial, rfl⟩)
theorem rd_moments : RD Try.prog 22 (fun l : List Moment => [momentsA l]) (fun _ => True) := RD.map (rd_slice T.sl22 T.sz57 rd_moment (fun _ => rfl)) id (fun a _ => ⟨trivial, rfl⟩)
theorem rd_nums : RD Try.prog 23 (fun l : List Int => [numsA l]) (fun _ => True) := RD.map (rd_slice T.sl23 T.sz30 (rd_int T.un30) (fun _ => rfl)) id (fun a _ => ⟨trivial, rfl⟩)

end Go.Proofs.Ytpoacfbobalpkaa.A
