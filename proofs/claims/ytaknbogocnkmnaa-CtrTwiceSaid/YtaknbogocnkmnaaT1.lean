import Derived.Test.YtaknbogocnkmnaaSh16
namespace Go.Sh
open Go.Proofs

theorem f85 (x : UInt8) : SCall Try.prog 85 [.u8 x] [] (.u8 (shl8 x 1 ^^^ (shr8 x 7 * 27))) [] := by
  refine scall_of ttOk (by kernel_rfl : Try.prog.funcs[85]? = some Try.f85) rfl rfl rfl ?_
  refine sw_ok ttOk mixed rfl ?_
  conv => whnf
  exact ⟨[], rfl, rfl, rfl, trivial, rfl⟩
end Go.Sh
