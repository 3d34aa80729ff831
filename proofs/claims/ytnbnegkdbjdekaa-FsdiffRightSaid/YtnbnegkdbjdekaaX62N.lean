/- Layer 62: what the statements hand in, read. -/
import Derived.Test.YtnbnegkdbjdekaaProg
import Derived.KernelRfl
import Derived.Test.YtnbnegkdbjdekaaX62J
import Derived.Test.YtnbnegkdbjdekaaS
namespace Go.Proofs.Ytnbnegkdbjdekaa.A
open Go Go.RowKit
set_option linter.unusedVariables false
set_option linter.unusedSimpArgs false
set_option maxRecDepth 100000

theorem TF.un3 : Try.prog.underlying 3 = some (.int .i64) := by kernel_rfl

theorem rd_bts : RD Try.prog 34 (fun l : List UInt8 => [bts l]) (fun _ => True) := RD.map (rd_slice TF.sl34 TF.sz5 (rd_u8 TF.un5) (fun _ => rfl)) id (fun a _ => ⟨trivial, rfl⟩)
theorem rd_file : RD Try.prog 54 File.cs (fun _ => True) := RD.map (rd_struct2 TF.f54_0 TF.f54_1 TF.sz54 TF.sz9 TF.sz34 (rd_str TF.un9) rd_bts) (fun a => (⟨a.1, a.2⟩ : File)) (fun a _ => ⟨trivial, rfl⟩)
theorem rd_files : RD Try.prog 22 (fun l : List File => [files l]) (fun _ => True) := RD.map (rd_slice TF.sl22 TF.sz54 rd_file (fun _ => rfl)) id (fun a _ => ⟨trivial, rfl⟩)
theorem rd_fc : RD Try.prog 36 FC.cs (fun _ => True) := RD.map (rd_struct4 TF.f36_0 TF.f36_1 TF.f36_2 TF.f36_3 TF.sz36 TF.sz3 TF.sz9 TF.sz9 TF.sz34 (rd_int TF.un3) (rd_str TF.un9) (rd_str TF.un9) rd_bts) (fun a => (⟨a.1, a.2.1, a.2.2.1, a.2.2.2⟩ : FC)) (fun a _ => ⟨trivial, rfl⟩)
theorem rds_btz : RDS Try.prog 34 (fun l : List UInt8 => [bts l]) (fun l => l.length ≤ 140737488351232) := RDS.map (rds_len TF.sl34 TF.by5 (RDS.of (rd_slice TF.sl34 TF.sz5 (rd_u8 TF.un5) (fun _ => rfl)))) id (fun a ha => ⟨by have := ha.2; rw [Nat.mul_one] at this; exact this, rfl⟩)
theorem rds_fc : RDS Try.prog 36 FC.cs (fun c => c.data.length ≤ 140737488351232) := RDS.map (rds_struct4 TF.f36_0 TF.f36_1 TF.f36_2 TF.f36_3 TF.sz36 TF.sz3 TF.sz9 TF.sz9 TF.sz34 (RDS.of (rd_int TF.un3)) (RDS.of (rd_str TF.un9)) (RDS.of (rd_str TF.un9)) rds_btz) (fun a => (⟨a.1, a.2.1, a.2.2.1, a.2.2.2⟩ : FC)) (fun a ha => ⟨ha.2.2.2, rfl⟩)
theorem rds_fcs : RDS Try.prog 30 (fun l : List FC => [fcsA l]) (fun l => ∀ c ∈ l, c.data.length ≤ 140737488351232) := RDS.map (rds_slice TF.sl30 TF.sz36 rds_fc (fun _ => rfl)) id (fun a ha => ⟨ha, rfl⟩)
theorem rd_fcs : RD Try.prog 30 (fun l : List FC => [fcsA l]) (fun _ => True) := RD.map (rd_slice TF.sl30 TF.sz36 rd_fc (fun _ => rfl)) id (fun a _ => ⟨trivial, rfl⟩)

end Go.Proofs.Ytnbnegkdbjdekaa.A
