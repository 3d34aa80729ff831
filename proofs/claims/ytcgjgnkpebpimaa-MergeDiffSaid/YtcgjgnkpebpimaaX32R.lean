/- Layer 32: what the statements hand in, read. -/
import Derived.Test.YtcgjgnkpebpimaaProg
import Derived.KernelRfl
import Derived.Test.YtcgjgnkpebpimaaX32I
import Derived.Test.YtcgjgnkpebpimaaK
namespace Go.Proofs.Ytcgjgnkpebpimaa.A
open Go Go.RowKit
set_option linter.unusedVariables false
set_option linter.unusedSimpArgs false
set_option maxRecDepth 100000

theorem T.un3 : Try.prog.underlying 3 = some (.int .i64) := by kernel_rfl
theorem T.un23 : Try.prog.underlying 23 = some (.int .u64) := by kernel_rfl

theorem rd_ent : RD Try.prog 35 Ent.cs (fun e => 0 ≤ e.num ∧ e.num < 18446744073709551616) :=
  RD.map (rd_struct3 T.f35_0 T.f35_1 T.f35_2 T.sz35 T.sz3 T.sz3 T.sz23 (rd_int T.un3) (rd_int T.un3) (rd_int T.un23)) (fun a => (⟨a.1, a.2.1, a.2.2⟩ : Ent)) (fun a ha => ⟨by have := ha.2.2; simp [IntKind.min, IntKind.max, IntKind.bits, IntKind.signed] at this; exact ⟨this.1, by show a.2.2 < _; omega⟩, rfl⟩)
theorem rd_ents : RD Try.prog 22 (fun l : List Ent => [entsA l]) Good := RD.map (rd_slice T.sl22 T.sz35 rd_ent (fun _ => rfl)) id (fun a ha => ⟨ha, rfl⟩)

end Go.Proofs.Ytcgjgnkpebpimaa.A
