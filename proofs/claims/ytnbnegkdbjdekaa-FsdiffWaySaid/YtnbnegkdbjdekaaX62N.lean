/- Layer 62: what the statements hand in, read. -/
import Derived.Test.YtnbnegkdbjdekaaProg
import Derived.KernelRfl
import Derived.Test.YtnbnegkdbjdekaaX62M
import Derived.Test.YtnbnegkdbjdekaaK
namespace Go.Proofs.Ytnbnegkdbjdekaa.A
open Go Go.RowKit
set_option linter.unusedVariables false
set_option linter.unusedSimpArgs false
set_option maxRecDepth 100000

theorem TF.un3 : Try.prog.underlying 3 = some (.int .i64) := by kernel_rfl

theorem rd_bts : RD Try.prog 34 (fun l : List UInt8 => [bts l]) (fun _ => True) := RD.map (rd_slice TF.sl34 TF.sz5 (rd_u8 TF.un5) (fun _ => rfl)) id (fun a _ => ⟨trivial, rfl⟩)
theorem rd_file : RD Try.prog 54 File.cs (fun _ => True) := RD.map (rd_struct2 TF.f54_0 TF.f54_1 TF.sz54 TF.sz9 TF.sz34 (rd_str TF.un9) rd_bts) (fun a => (⟨a.1, a.2⟩ : File)) (fun a _ => ⟨trivial, rfl⟩)
theorem rd_files : RD Try.prog 22 (fun l : List File => [files l]) (fun _ => True) := RD.map (rd_slice TF.sl22 TF.sz54 rd_file (fun _ => rfl)) id (fun a _ => ⟨trivial, rfl⟩)
theorem rd_fc : RD Try.prog 36 FC.cs (fun _ => True) := RD.map (rd_struct4 TF.f36_0 TF.f36_1 TF.f36_2 TF.f36_3 TF.sz36 TF.sz3 TF.sz9 TF.sz9 TF.sz34 (rd_int TF.un3) (rd_str TF.un9) (rd_str TF.un9) rd_bts) (fun a => (⟨a.1, a.2.1, a.2.2.1, a.2.2.2⟩ : FC)) (fun a _ => ⟨trivial, rfl⟩)
theorem rd_fcs : RD Try.prog 30 (fun l : List FC => [fcsA l]) (fun _ => True) := RD.map (rd_slice TF.sl30 TF.sz36 rd_fc (fun _ => rfl)) id (fun a _ => ⟨trivial, rfl⟩)

end Go.Proofs.Ytnbnegkdbjdekaa.A
