/- Layer 31: what the statements hand in, read. -/
import Derived.Test.YtaglbmgpdoophaaProg
import Derived.KernelRfl
import Derived.Test.YtaglbmgpdoophaaX31H
import Derived.Test.YtaglbmgpdoophaaK
namespace Go.Proofs.Ytaglbmgpdoophaa.A
open Go Go.RowKit
set_option linter.unusedVariables false
set_option linter.unusedSimpArgs false
set_option maxRecDepth 100000

theorem TD.un3 : Try.prog.underlying 3 = some (.int .i64) := by kernel_rfl
theorem TD.un79 : Try.prog.underlying 79 = some (.int .u64) := by kernel_rfl

theorem rd_ent : RD Try.prog 110 Ent.cs (fun _ => True) :=
  RD.map (rd_struct3 TD.f110_0 TD.f110_1 TD.f110_2 TD.sz110 TD.sz3 TD.sz3 TD.sz79 (rd_int TD.un3) (rd_int TD.un3) (rd_int TD.un79)) (fun a => (⟨a.1, a.2.1, a.2.2⟩ : Ent)) (fun a ha => ⟨trivial, rfl⟩)
theorem rd_ents : RD Try.prog 22 (fun l : List Ent => [entsA l]) (fun _ => True) := RD.map (rd_slice TD.sl22 TD.sz110 rd_ent (fun _ => rfl)) id (fun a ha => ⟨trivial, rfl⟩)
theorem rd_chg : RD Try.prog 113 Chg.cs (fun _ => True) :=
  RD.map (rd_struct4 TD.f113_0 TD.f113_1 TD.f113_2 TD.f113_3 TD.sz113 TD.sz3 TD.sz3 TD.sz79 TD.sz79 (rd_int TD.un3) (rd_int TD.un3) (rd_int TD.un79) (rd_int TD.un79)) (fun a => (⟨a.1, a.2.1, a.2.2.1, a.2.2.2⟩ : Chg)) (fun a ha => ⟨trivial, rfl⟩)
theorem rd_chgs : RD Try.prog 25 (fun l : List Chg => [chgsA l]) (fun _ => True) := RD.map (rd_slice TD.sl25 TD.sz113 rd_chg (fun _ => rfl)) id (fun a ha => ⟨trivial, rfl⟩)

end Go.Proofs.Ytaglbmgpdoophaa.A
