/- The types of the seat's program: sizes, zeros, fields. Printed by types.py. -/
import Derived.Test.YtaknbogocnkmnaaSh15
import Derived.Test.YtaknbogocnkmnaaProg
namespace Go.Sh
open Go.Proofs

def ti0 : TI := ⟨1, false, none, 0, .oth, none, none⟩
@[simp] theorem ti0_sz : ti0.sz = 1 := rfl
theorem ti0Ok : TIOk Try.prog 0 ti0 := ⟨by kernel_rfl, by kernel_rfl, fun z h => (by cases h), by kernel_rfl, trivial, fun ks h => (by cases h), by kernel_rfl⟩
def ti1 : TI := ⟨1, false, (some .fnil), 8, .oth, none, (some 2)⟩
@[simp] theorem ti1_sz : ti1.sz = 1 := rfl
theorem ti1Ok : TIOk Try.prog 1 ti1 := ⟨by kernel_rfl, by kernel_rfl, fun z h => (by cases h; kernel_rfl), by kernel_rfl, trivial, fun ks h => (by cases h), by kernel_rfl⟩
def ti2 : TI := ⟨1, false, (some (.i 0)), 8, (.int .i64), none, none⟩
@[simp] theorem ti2_sz : ti2.sz = 1 := rfl
theorem ti2Ok : TIOk Try.prog 2 ti2 := ⟨by kernel_rfl, by kernel_rfl, fun z h => (by cases h; kernel_rfl), by kernel_rfl, (by kernel_rfl : Try.prog.underlying 2 = _), fun ks h => (by cases h), by kernel_rfl⟩
def ti3 : TI := ⟨1, false, (some (.i 0)), 8, (.int .i64), none, none⟩
@[simp] theorem ti3_sz : ti3.sz = 1 := rfl
theorem ti3Ok : TIOk Try.prog 3 ti3 := ⟨by kernel_rfl, by kernel_rfl, fun z h => (by cases h; kernel_rfl), by kernel_rfl, (by kernel_rfl : Try.prog.underlying 3 = _), fun ks h => (by cases h), by kernel_rfl⟩
def ti4 : TI := ⟨1, false, (some (.b false)), 1, .oth, none, (some 0)⟩
@[simp] theorem ti4_sz : ti4.sz = 1 := rfl
theorem ti4Ok : TIOk Try.prog 4 ti4 := ⟨by kernel_rfl, by kernel_rfl, fun z h => (by cases h; kernel_rfl), by kernel_rfl, trivial, fun ks h => (by cases h), by kernel_rfl⟩
def ti5 : TI := ⟨1, false, (some (.u8 0)), 1, (.int .u8), none, none⟩
@[simp] theorem ti5_sz : ti5.sz = 1 := rfl
theorem ti5Ok : TIOk Try.prog 5 ti5 := ⟨by kernel_rfl, by kernel_rfl, fun z h => (by cases h; kernel_rfl), by kernel_rfl, (by kernel_rfl : Try.prog.underlying 5 = _), fun ks h => (by cases h), by kernel_rfl⟩
def ti6 : TI := ⟨1, false, (some (.u8 0)), 1, (.int .u8), none, none⟩
@[simp] theorem ti6_sz : ti6.sz = 1 := rfl
theorem ti6Ok : TIOk Try.prog 6 ti6 := ⟨by kernel_rfl, by kernel_rfl, fun z h => (by cases h; kernel_rfl), by kernel_rfl, (by kernel_rfl : Try.prog.underlying 6 = _), fun ks h => (by cases h), by kernel_rfl⟩
def ti7 : TI := ⟨4, true, (some (.agg [(.i 0), (.i 0), (.b false), (.u8 0)])), 24, (.st [(0, 2, 1), (1, 3, 1), (2, 4, 1), (3, 6, 1)]), (some [0, 0, 5, 1]), none⟩
@[simp] theorem ti7_sz : ti7.sz = 4 := rfl
theorem ti7Ok : TIOk Try.prog 7 ti7 := ⟨by kernel_rfl, by kernel_rfl, fun z h => (by cases h; kernel_rfl), by kernel_rfl, ⟨by kernel_rfl, by kernel_rfl, by kernel_rfl⟩, fun ks h => (by cases h; exact ⟨by kernel_rfl, by kernel_rfl, by kernel_rfl⟩), by kernel_rfl⟩
def ti8 : TI := ⟨4, true, (some (.agg [(.i 0), (.i 0), (.b false), (.u8 0)])), 24, (.st [(0, 2, 1), (1, 3, 1), (2, 4, 1), (3, 6, 1)]), (some [0, 0, 5, 1]), none⟩
@[simp] theorem ti8_sz : ti8.sz = 4 := rfl
theorem ti8Ok : TIOk Try.prog 8 ti8 := ⟨by kernel_rfl, by kernel_rfl, fun z h => (by cases h; kernel_rfl), by kernel_rfl, ⟨by kernel_rfl, by kernel_rfl, by kernel_rfl⟩, fun ks h => (by cases h; exact ⟨by kernel_rfl, by kernel_rfl, by kernel_rfl⟩), by kernel_rfl⟩
def ti9 : TI := ⟨1, false, (some (.s [])), 16, .str, none, none⟩
@[simp] theorem ti9_sz : ti9.sz = 1 := rfl
theorem ti9Ok : TIOk Try.prog 9 ti9 := ⟨by kernel_rfl, by kernel_rfl, fun z h => (by cases h; kernel_rfl), by kernel_rfl, (by kernel_rfl : Try.prog.underlying 9 = _), fun ks h => (by cases h), by kernel_rfl⟩
def ti10 : TI := ⟨1, false, (some (.s [])), 16, .str, none, none⟩
@[simp] theorem ti10_sz : ti10.sz = 1 := rfl
theorem ti10Ok : TIOk Try.prog 10 ti10 := ⟨by kernel_rfl, by kernel_rfl, fun z h => (by cases h; kernel_rfl), by kernel_rfl, (by kernel_rfl : Try.prog.underlying 10 = _), fun ks h => (by cases h), by kernel_rfl⟩
def ti11 : TI := ⟨1, false, (some (.s [])), 16, .str, none, none⟩
@[simp] theorem ti11_sz : ti11.sz = 1 := rfl
theorem ti11Ok : TIOk Try.prog 11 ti11 := ⟨by kernel_rfl, by kernel_rfl, fun z h => (by cases h; kernel_rfl), by kernel_rfl, (by kernel_rfl : Try.prog.underlying 11 = _), fun ks h => (by cases h), by kernel_rfl⟩
def ti12 : TI := ⟨1, false, (some (.u64 0)), 8, (.int .u64), none, none⟩
@[simp] theorem ti12_sz : ti12.sz = 1 := rfl
theorem ti12Ok : TIOk Try.prog 12 ti12 := ⟨by kernel_rfl, by kernel_rfl, fun z h => (by cases h; kernel_rfl), by kernel_rfl, (by kernel_rfl : Try.prog.underlying 12 = _), fun ks h => (by cases h), by kernel_rfl⟩
def ti13 : TI := ⟨2, true, (some (.agg [(.s []), (.u64 0)])), 24, (.st [(0, 9, 1), (1, 12, 1)]), none, none⟩
@[simp] theorem ti13_sz : ti13.sz = 2 := rfl
theorem ti13Ok : TIOk Try.prog 13 ti13 := ⟨by kernel_rfl, by kernel_rfl, fun z h => (by cases h; kernel_rfl), by kernel_rfl, ⟨by kernel_rfl, by kernel_rfl, by kernel_rfl⟩, fun ks h => (by cases h), by kernel_rfl⟩
def ti14 : TI := ⟨2, true, (some (.agg [(.s []), (.u64 0)])), 24, (.st [(0, 9, 1), (1, 12, 1)]), none, none⟩
@[simp] theorem ti14_sz : ti14.sz = 2 := rfl
theorem ti14Ok : TIOk Try.prog 14 ti14 := ⟨by kernel_rfl, by kernel_rfl, fun z h => (by cases h; kernel_rfl), by kernel_rfl, ⟨by kernel_rfl, by kernel_rfl, by kernel_rfl⟩, fun ks h => (by cases h), by kernel_rfl⟩
def ti15 : TI := ⟨1, false, (some .pnil), 8, .oth, none, (some 1)⟩
@[simp] theorem ti15_sz : ti15.sz = 1 := rfl
theorem ti15Ok : TIOk Try.prog 15 ti15 := ⟨by kernel_rfl, by kernel_rfl, fun z h => (by cases h; kernel_rfl), by kernel_rfl, trivial, fun ks h => (by cases h), by kernel_rfl⟩
def ti16 : TI := ⟨1, false, (some .pnil), 8, .oth, none, (some 1)⟩
@[simp] theorem ti16_sz : ti16.sz = 1 := rfl
theorem ti16Ok : TIOk Try.prog 16 ti16 := ⟨by kernel_rfl, by kernel_rfl, fun z h => (by cases h; kernel_rfl), by kernel_rfl, trivial, fun ks h => (by cases h), by kernel_rfl⟩
def ti17 : TI := ⟨1, false, (some .pnil), 8, .oth, none, (some 1)⟩
@[simp] theorem ti17_sz : ti17.sz = 1 := rfl
theorem ti17Ok : TIOk Try.prog 17 ti17 := ⟨by kernel_rfl, by kernel_rfl, fun z h => (by cases h; kernel_rfl), by kernel_rfl, trivial, fun ks h => (by cases h), by kernel_rfl⟩
def ti18 : TI := ⟨1, true, (some (.agg [.pnil])), 8, (.st [(0, 17, 1)]), none, none⟩
@[simp] theorem ti18_sz : ti18.sz = 1 := rfl
theorem ti18Ok : TIOk Try.prog 18 ti18 := ⟨by kernel_rfl, by kernel_rfl, fun z h => (by cases h; kernel_rfl), by kernel_rfl, ⟨by kernel_rfl, by kernel_rfl, by kernel_rfl⟩, fun ks h => (by cases h), by kernel_rfl⟩
def ti19 : TI := ⟨1, true, (some (.agg [.pnil])), 8, (.st [(0, 17, 1)]), none, none⟩
@[simp] theorem ti19_sz : ti19.sz = 1 := rfl
theorem ti19Ok : TIOk Try.prog 19 ti19 := ⟨by kernel_rfl, by kernel_rfl, fun z h => (by cases h; kernel_rfl), by kernel_rfl, ⟨by kernel_rfl, by kernel_rfl, by kernel_rfl⟩, fun ks h => (by cases h), by kernel_rfl⟩
def ti20 : TI := ⟨1, false, none, 16, .oth, none, none⟩
@[simp] theorem ti20_sz : ti20.sz = 1 := rfl
theorem ti20Ok : TIOk Try.prog 20 ti20 := ⟨by kernel_rfl, by kernel_rfl, fun z h => (by cases h), by kernel_rfl, trivial, fun ks h => (by cases h), by kernel_rfl⟩
def ti21 : TI := ⟨1, false, none, 4, (.int .i32), none, none⟩
@[simp] theorem ti21_sz : ti21.sz = 1 := rfl
theorem ti21Ok : TIOk Try.prog 21 ti21 := ⟨by kernel_rfl, by kernel_rfl, fun z h => (by cases h), by kernel_rfl, (by kernel_rfl : Try.prog.underlying 21 = _), fun ks h => (by cases h), by kernel_rfl⟩
def ti22 : TI := ⟨1, false, (some (.u64 0)), 8, (.int .u64), none, none⟩
@[simp] theorem ti22_sz : ti22.sz = 1 := rfl
theorem ti22Ok : TIOk Try.prog 22 ti22 := ⟨by kernel_rfl, by kernel_rfl, fun z h => (by cases h; kernel_rfl), by kernel_rfl, (by kernel_rfl : Try.prog.underlying 22 = _), fun ks h => (by cases h), by kernel_rfl⟩
def ti23 : TI := ⟨2, true, (some (.agg [(.u64 0), (.u64 0)])), 16, (.st [(0, 22, 1), (1, 22, 1)]), (some [4, 4]), none⟩
@[simp] theorem ti23_sz : ti23.sz = 2 := rfl
theorem ti23Ok : TIOk Try.prog 23 ti23 := ⟨by kernel_rfl, by kernel_rfl, fun z h => (by cases h; kernel_rfl), by kernel_rfl, ⟨by kernel_rfl, by kernel_rfl, by kernel_rfl⟩, fun ks h => (by cases h; exact ⟨by kernel_rfl, by kernel_rfl, by kernel_rfl⟩), by kernel_rfl⟩
def ti24 : TI := ⟨2, true, (some (.agg [(.u64 0), (.u64 0)])), 16, (.st [(0, 22, 1), (1, 22, 1)]), (some [4, 4]), none⟩
@[simp] theorem ti24_sz : ti24.sz = 2 := rfl
theorem ti24Ok : TIOk Try.prog 24 ti24 := ⟨by kernel_rfl, by kernel_rfl, fun z h => (by cases h; kernel_rfl), by kernel_rfl, ⟨by kernel_rfl, by kernel_rfl, by kernel_rfl⟩, fun ks h => (by cases h; exact ⟨by kernel_rfl, by kernel_rfl, by kernel_rfl⟩), by kernel_rfl⟩
def ti25 : TI := ⟨1, false, (some .slnil), 24, (.slc 5), none, (some 3)⟩
@[simp] theorem ti25_sz : ti25.sz = 1 := rfl
theorem ti25Ok : TIOk Try.prog 25 ti25 := ⟨by kernel_rfl, by kernel_rfl, fun z h => (by cases h; kernel_rfl), by kernel_rfl, (by kernel_rfl : Try.prog.underlying 25 = _), fun ks h => (by cases h), by kernel_rfl⟩
def ti26 : TI := ⟨1, false, (some .fnil), 8, .oth, none, (some 2)⟩
@[simp] theorem ti26_sz : ti26.sz = 1 := rfl
theorem ti26Ok : TIOk Try.prog 26 ti26 := ⟨by kernel_rfl, by kernel_rfl, fun z h => (by cases h; kernel_rfl), by kernel_rfl, trivial, fun ks h => (by cases h), by kernel_rfl⟩
def ti27 : TI := ⟨1, false, (some .fnil), 8, .oth, none, (some 2)⟩
@[simp] theorem ti27_sz : ti27.sz = 1 := rfl
theorem ti27Ok : TIOk Try.prog 27 ti27 := ⟨by kernel_rfl, by kernel_rfl, fun z h => (by cases h; kernel_rfl), by kernel_rfl, trivial, fun ks h => (by cases h), by kernel_rfl⟩
def ti28 : TI := ⟨1, false, (some (.i 0)), 8, (.int .i64), none, none⟩
@[simp] theorem ti28_sz : ti28.sz = 1 := rfl
theorem ti28Ok : TIOk Try.prog 28 ti28 := ⟨by kernel_rfl, by kernel_rfl, fun z h => (by cases h; kernel_rfl), by kernel_rfl, (by kernel_rfl : Try.prog.underlying 28 = _), fun ks h => (by cases h), by kernel_rfl⟩
def ti29 : TI := ⟨1, false, none, 0, .oth, none, none⟩
@[simp] theorem ti29_sz : ti29.sz = 1 := rfl
theorem ti29Ok : TIOk Try.prog 29 ti29 := ⟨by kernel_rfl, by kernel_rfl, fun z h => (by cases h), by kernel_rfl, trivial, fun ks h => (by cases h), by kernel_rfl⟩
def ti30 : TI := ⟨1, false, (some .fnil), 8, .oth, none, (some 2)⟩
@[simp] theorem ti30_sz : ti30.sz = 1 := rfl
theorem ti30Ok : TIOk Try.prog 30 ti30 := ⟨by kernel_rfl, by kernel_rfl, fun z h => (by cases h; kernel_rfl), by kernel_rfl, trivial, fun ks h => (by cases h), by kernel_rfl⟩
def ti31 : TI := ⟨1, false, none, 0, .oth, none, none⟩
@[simp] theorem ti31_sz : ti31.sz = 1 := rfl
theorem ti31Ok : TIOk Try.prog 31 ti31 := ⟨by kernel_rfl, by kernel_rfl, fun z h => (by cases h), by kernel_rfl, trivial, fun ks h => (by cases h), by kernel_rfl⟩
def ti32 : TI := ⟨1, false, (some .fnil), 8, .oth, none, (some 2)⟩
@[simp] theorem ti32_sz : ti32.sz = 1 := rfl
theorem ti32Ok : TIOk Try.prog 32 ti32 := ⟨by kernel_rfl, by kernel_rfl, fun z h => (by cases h; kernel_rfl), by kernel_rfl, trivial, fun ks h => (by cases h), by kernel_rfl⟩
def ti33 : TI := ⟨1, false, (some .fnil), 8, .oth, none, (some 2)⟩
@[simp] theorem ti33_sz : ti33.sz = 1 := rfl
theorem ti33Ok : TIOk Try.prog 33 ti33 := ⟨by kernel_rfl, by kernel_rfl, fun z h => (by cases h; kernel_rfl), by kernel_rfl, trivial, fun ks h => (by cases h), by kernel_rfl⟩
def ti34 : TI := ⟨1, false, (some .fnil), 8, .oth, none, (some 2)⟩
@[simp] theorem ti34_sz : ti34.sz = 1 := rfl
theorem ti34Ok : TIOk Try.prog 34 ti34 := ⟨by kernel_rfl, by kernel_rfl, fun z h => (by cases h; kernel_rfl), by kernel_rfl, trivial, fun ks h => (by cases h), by kernel_rfl⟩
def ti35 : TI := ⟨1, false, (some .fnil), 8, .oth, none, (some 2)⟩
@[simp] theorem ti35_sz : ti35.sz = 1 := rfl
theorem ti35Ok : TIOk Try.prog 35 ti35 := ⟨by kernel_rfl, by kernel_rfl, fun z h => (by cases h; kernel_rfl), by kernel_rfl, trivial, fun ks h => (by cases h), by kernel_rfl⟩
def ti36 : TI := ⟨2, true, (some (.agg [(.u8 0), (.u8 0)])), 2, (.st [(0, 5, 1), (1, 5, 1)]), (some [1, 1]), none⟩
@[simp] theorem ti36_sz : ti36.sz = 2 := rfl
theorem ti36Ok : TIOk Try.prog 36 ti36 := ⟨by kernel_rfl, by kernel_rfl, fun z h => (by cases h; kernel_rfl), by kernel_rfl, ⟨by kernel_rfl, by kernel_rfl, by kernel_rfl⟩, fun ks h => (by cases h; exact ⟨by kernel_rfl, by kernel_rfl, by kernel_rfl⟩), by kernel_rfl⟩
def ti37 : TI := ⟨2, true, (some (.agg [(.u8 0), (.u8 0)])), 2, (.st [(0, 5, 1), (1, 5, 1)]), (some [1, 1]), none⟩
@[simp] theorem ti37_sz : ti37.sz = 2 := rfl
theorem ti37Ok : TIOk Try.prog 37 ti37 := ⟨by kernel_rfl, by kernel_rfl, fun z h => (by cases h; kernel_rfl), by kernel_rfl, ⟨by kernel_rfl, by kernel_rfl, by kernel_rfl⟩, fun ks h => (by cases h; exact ⟨by kernel_rfl, by kernel_rfl, by kernel_rfl⟩), by kernel_rfl⟩
def ti38 : TI := ⟨3, true, (some (.agg [(.u8 0), (.u8 0), .slnil])), 32, (.st [(0, 37, 2), (2, 25, 1)]), none, none⟩
@[simp] theorem ti38_sz : ti38.sz = 3 := rfl
theorem ti38Ok : TIOk Try.prog 38 ti38 := ⟨by kernel_rfl, by kernel_rfl, fun z h => (by cases h; kernel_rfl), by kernel_rfl, ⟨by kernel_rfl, by kernel_rfl, by kernel_rfl⟩, fun ks h => (by cases h), by kernel_rfl⟩
def ti39 : TI := ⟨3, true, (some (.agg [(.u8 0), (.u8 0), .slnil])), 32, (.st [(0, 37, 2), (2, 25, 1)]), none, none⟩
@[simp] theorem ti39_sz : ti39.sz = 3 := rfl
theorem ti39Ok : TIOk Try.prog 39 ti39 := ⟨by kernel_rfl, by kernel_rfl, fun z h => (by cases h; kernel_rfl), by kernel_rfl, ⟨by kernel_rfl, by kernel_rfl, by kernel_rfl⟩, fun ks h => (by cases h), by kernel_rfl⟩
def ti40 : TI := ⟨1, false, none, 0, .oth, none, none⟩
@[simp] theorem ti40_sz : ti40.sz = 1 := rfl
theorem ti40Ok : TIOk Try.prog 40 ti40 := ⟨by kernel_rfl, by kernel_rfl, fun z h => (by cases h), by kernel_rfl, trivial, fun ks h => (by cases h), by kernel_rfl⟩
def ti41 : TI := ⟨1, false, (some .fnil), 8, .oth, none, (some 2)⟩
@[simp] theorem ti41_sz : ti41.sz = 1 := rfl
theorem ti41Ok : TIOk Try.prog 41 ti41 := ⟨by kernel_rfl, by kernel_rfl, fun z h => (by cases h; kernel_rfl), by kernel_rfl, trivial, fun ks h => (by cases h), by kernel_rfl⟩
def ti42 : TI := ⟨1, false, none, 0, .oth, none, none⟩
@[simp] theorem ti42_sz : ti42.sz = 1 := rfl
theorem ti42Ok : TIOk Try.prog 42 ti42 := ⟨by kernel_rfl, by kernel_rfl, fun z h => (by cases h), by kernel_rfl, trivial, fun ks h => (by cases h), by kernel_rfl⟩
def ti43 : TI := ⟨1, false, (some .fnil), 8, .oth, none, (some 2)⟩
@[simp] theorem ti43_sz : ti43.sz = 1 := rfl
theorem ti43Ok : TIOk Try.prog 43 ti43 := ⟨by kernel_rfl, by kernel_rfl, fun z h => (by cases h; kernel_rfl), by kernel_rfl, trivial, fun ks h => (by cases h), by kernel_rfl⟩
def ti44 : TI := ⟨1, false, (some .fnil), 8, .oth, none, (some 2)⟩
@[simp] theorem ti44_sz : ti44.sz = 1 := rfl
theorem ti44Ok : TIOk Try.prog 44 ti44 := ⟨by kernel_rfl, by kernel_rfl, fun z h => (by cases h; kernel_rfl), by kernel_rfl, trivial, fun ks h => (by cases h), by kernel_rfl⟩
def ti45 : TI := ⟨1, false, (some .slnil), 24, (.slc 49), none, (some 3)⟩
@[simp] theorem ti45_sz : ti45.sz = 1 := rfl
theorem ti45Ok : TIOk Try.prog 45 ti45 := ⟨by kernel_rfl, by kernel_rfl, fun z h => (by cases h; kernel_rfl), by kernel_rfl, (by kernel_rfl : Try.prog.underlying 45 = _), fun ks h => (by cases h), by kernel_rfl⟩
def ti46 : TI := ⟨1, false, (some .slnil), 24, (.slc 3), none, (some 3)⟩
@[simp] theorem ti46_sz : ti46.sz = 1 := rfl
theorem ti46Ok : TIOk Try.prog 46 ti46 := ⟨by kernel_rfl, by kernel_rfl, fun z h => (by cases h; kernel_rfl), by kernel_rfl, (by kernel_rfl : Try.prog.underlying 46 = _), fun ks h => (by cases h), by kernel_rfl⟩
def ti47 : TI := ⟨1, false, (some .pnil), 8, .oth, none, (some 1)⟩
@[simp] theorem ti47_sz : ti47.sz = 1 := rfl
theorem ti47Ok : TIOk Try.prog 47 ti47 := ⟨by kernel_rfl, by kernel_rfl, fun z h => (by cases h; kernel_rfl), by kernel_rfl, trivial, fun ks h => (by cases h), by kernel_rfl⟩
def ti48 : TI := ⟨1, false, (some .fnil), 8, .oth, none, (some 2)⟩
@[simp] theorem ti48_sz : ti48.sz = 1 := rfl
theorem ti48Ok : TIOk Try.prog 48 ti48 := ⟨by kernel_rfl, by kernel_rfl, fun z h => (by cases h; kernel_rfl), by kernel_rfl, trivial, fun ks h => (by cases h), by kernel_rfl⟩
def ti49 : TI := ⟨1, false, (some (.u32 0)), 4, (.int .u32), none, none⟩
@[simp] theorem ti49_sz : ti49.sz = 1 := rfl
theorem ti49Ok : TIOk Try.prog 49 ti49 := ⟨by kernel_rfl, by kernel_rfl, fun z h => (by cases h; kernel_rfl), by kernel_rfl, (by kernel_rfl : Try.prog.underlying 49 = _), fun ks h => (by cases h), by kernel_rfl⟩
def ti50 : TI := ⟨1, false, (some .fnil), 8, .oth, none, (some 2)⟩
@[simp] theorem ti50_sz : ti50.sz = 1 := rfl
theorem ti50Ok : TIOk Try.prog 50 ti50 := ⟨by kernel_rfl, by kernel_rfl, fun z h => (by cases h; kernel_rfl), by kernel_rfl, trivial, fun ks h => (by cases h), by kernel_rfl⟩
def ti51 : TI := ⟨1, false, (some .mnil), 8, .oth, none, none⟩
@[simp] theorem ti51_sz : ti51.sz = 1 := rfl
theorem ti51Ok : TIOk Try.prog 51 ti51 := ⟨by kernel_rfl, by kernel_rfl, fun z h => (by cases h; kernel_rfl), by kernel_rfl, trivial, fun ks h => (by cases h), by kernel_rfl⟩
def ti52 : TI := ⟨1, false, (some .fnil), 8, .oth, none, (some 2)⟩
@[simp] theorem ti52_sz : ti52.sz = 1 := rfl
theorem ti52Ok : TIOk Try.prog 52 ti52 := ⟨by kernel_rfl, by kernel_rfl, fun z h => (by cases h; kernel_rfl), by kernel_rfl, trivial, fun ks h => (by cases h), by kernel_rfl⟩
def ti53 : TI := ⟨1, false, none, 0, .oth, none, none⟩
@[simp] theorem ti53_sz : ti53.sz = 1 := rfl
theorem ti53Ok : TIOk Try.prog 53 ti53 := ⟨by kernel_rfl, by kernel_rfl, fun z h => (by cases h), by kernel_rfl, trivial, fun ks h => (by cases h), by kernel_rfl⟩
def ti54 : TI := ⟨1, false, (some .fnil), 8, .oth, none, (some 2)⟩
@[simp] theorem ti54_sz : ti54.sz = 1 := rfl
theorem ti54Ok : TIOk Try.prog 54 ti54 := ⟨by kernel_rfl, by kernel_rfl, fun z h => (by cases h; kernel_rfl), by kernel_rfl, trivial, fun ks h => (by cases h), by kernel_rfl⟩
def ti55 : TI := ⟨1, false, (some .fnil), 8, .oth, none, (some 2)⟩
@[simp] theorem ti55_sz : ti55.sz = 1 := rfl
theorem ti55Ok : TIOk Try.prog 55 ti55 := ⟨by kernel_rfl, by kernel_rfl, fun z h => (by cases h; kernel_rfl), by kernel_rfl, trivial, fun ks h => (by cases h), by kernel_rfl⟩
def ti56 : TI := ⟨1, false, (some .slnil), 24, (.slc 59), none, (some 3)⟩
@[simp] theorem ti56_sz : ti56.sz = 1 := rfl
theorem ti56Ok : TIOk Try.prog 56 ti56 := ⟨by kernel_rfl, by kernel_rfl, fun z h => (by cases h; kernel_rfl), by kernel_rfl, (by kernel_rfl : Try.prog.underlying 56 = _), fun ks h => (by cases h), by kernel_rfl⟩
def ti57 : TI := ⟨1, false, (some .fnil), 8, .oth, none, (some 2)⟩
@[simp] theorem ti57_sz : ti57.sz = 1 := rfl
theorem ti57Ok : TIOk Try.prog 57 ti57 := ⟨by kernel_rfl, by kernel_rfl, fun z h => (by cases h; kernel_rfl), by kernel_rfl, trivial, fun ks h => (by cases h), by kernel_rfl⟩
def ti58 : TI := ⟨4, true, (some (.agg [(.u8 0), (.i 0), .slnil, (.u32 0)])), 48, (.st [(0, 5, 1), (1, 3, 1), (2, 45, 1), (3, 49, 1)]), none, none⟩
@[simp] theorem ti58_sz : ti58.sz = 4 := rfl
theorem ti58Ok : TIOk Try.prog 58 ti58 := ⟨by kernel_rfl, by kernel_rfl, fun z h => (by cases h; kernel_rfl), by kernel_rfl, ⟨by kernel_rfl, by kernel_rfl, by kernel_rfl⟩, fun ks h => (by cases h), by kernel_rfl⟩
def ti59 : TI := ⟨4, true, (some (.agg [(.u8 0), (.i 0), .slnil, (.u32 0)])), 48, (.st [(0, 5, 1), (1, 3, 1), (2, 45, 1), (3, 49, 1)]), none, none⟩
@[simp] theorem ti59_sz : ti59.sz = 4 := rfl
theorem ti59Ok : TIOk Try.prog 59 ti59 := ⟨by kernel_rfl, by kernel_rfl, fun z h => (by cases h; kernel_rfl), by kernel_rfl, ⟨by kernel_rfl, by kernel_rfl, by kernel_rfl⟩, fun ks h => (by cases h), by kernel_rfl⟩
def ti60 : TI := ⟨1, false, none, 0, .oth, none, none⟩
@[simp] theorem ti60_sz : ti60.sz = 1 := rfl
theorem ti60Ok : TIOk Try.prog 60 ti60 := ⟨by kernel_rfl, by kernel_rfl, fun z h => (by cases h), by kernel_rfl, trivial, fun ks h => (by cases h), by kernel_rfl⟩
def ti61 : TI := ⟨1, false, (some .fnil), 8, .oth, none, (some 2)⟩
@[simp] theorem ti61_sz : ti61.sz = 1 := rfl
theorem ti61Ok : TIOk Try.prog 61 ti61 := ⟨by kernel_rfl, by kernel_rfl, fun z h => (by cases h; kernel_rfl), by kernel_rfl, trivial, fun ks h => (by cases h), by kernel_rfl⟩
def ti62 : TI := ⟨1, false, (some .fnil), 8, .oth, none, (some 2)⟩
@[simp] theorem ti62_sz : ti62.sz = 1 := rfl
theorem ti62Ok : TIOk Try.prog 62 ti62 := ⟨by kernel_rfl, by kernel_rfl, fun z h => (by cases h; kernel_rfl), by kernel_rfl, trivial, fun ks h => (by cases h), by kernel_rfl⟩
def ti63 : TI := ⟨1, false, (some .fnil), 8, .oth, none, (some 2)⟩
@[simp] theorem ti63_sz : ti63.sz = 1 := rfl
theorem ti63Ok : TIOk Try.prog 63 ti63 := ⟨by kernel_rfl, by kernel_rfl, fun z h => (by cases h; kernel_rfl), by kernel_rfl, trivial, fun ks h => (by cases h), by kernel_rfl⟩
def ti64 : TI := ⟨1, false, (some .fnil), 8, .oth, none, (some 2)⟩
@[simp] theorem ti64_sz : ti64.sz = 1 := rfl
theorem ti64Ok : TIOk Try.prog 64 ti64 := ⟨by kernel_rfl, by kernel_rfl, fun z h => (by cases h; kernel_rfl), by kernel_rfl, trivial, fun ks h => (by cases h), by kernel_rfl⟩
def ti65 : TI := ⟨1, false, (some .fnil), 8, .oth, none, (some 2)⟩
@[simp] theorem ti65_sz : ti65.sz = 1 := rfl
theorem ti65Ok : TIOk Try.prog 65 ti65 := ⟨by kernel_rfl, by kernel_rfl, fun z h => (by cases h; kernel_rfl), by kernel_rfl, trivial, fun ks h => (by cases h), by kernel_rfl⟩
def ti66 : TI := ⟨1, false, (some .fnil), 8, .oth, none, (some 2)⟩
@[simp] theorem ti66_sz : ti66.sz = 1 := rfl
theorem ti66Ok : TIOk Try.prog 66 ti66 := ⟨by kernel_rfl, by kernel_rfl, fun z h => (by cases h; kernel_rfl), by kernel_rfl, trivial, fun ks h => (by cases h), by kernel_rfl⟩
def ti67 : TI := ⟨1, false, (some .fnil), 8, .oth, none, (some 2)⟩
@[simp] theorem ti67_sz : ti67.sz = 1 := rfl
theorem ti67Ok : TIOk Try.prog 67 ti67 := ⟨by kernel_rfl, by kernel_rfl, fun z h => (by cases h; kernel_rfl), by kernel_rfl, trivial, fun ks h => (by cases h), by kernel_rfl⟩
def ti68 : TI := ⟨1, false, (some .fnil), 8, .oth, none, (some 2)⟩
@[simp] theorem ti68_sz : ti68.sz = 1 := rfl
theorem ti68Ok : TIOk Try.prog 68 ti68 := ⟨by kernel_rfl, by kernel_rfl, fun z h => (by cases h; kernel_rfl), by kernel_rfl, trivial, fun ks h => (by cases h), by kernel_rfl⟩
def ti69 : TI := ⟨1, false, (some .fnil), 8, .oth, none, (some 2)⟩
@[simp] theorem ti69_sz : ti69.sz = 1 := rfl
theorem ti69Ok : TIOk Try.prog 69 ti69 := ⟨by kernel_rfl, by kernel_rfl, fun z h => (by cases h; kernel_rfl), by kernel_rfl, trivial, fun ks h => (by cases h), by kernel_rfl⟩
def ti70 : TI := ⟨1, false, (some .pnil), 8, .oth, none, (some 1)⟩
@[simp] theorem ti70_sz : ti70.sz = 1 := rfl
theorem ti70Ok : TIOk Try.prog 70 ti70 := ⟨by kernel_rfl, by kernel_rfl, fun z h => (by cases h; kernel_rfl), by kernel_rfl, trivial, fun ks h => (by cases h), by kernel_rfl⟩
def ti71 : TI := ⟨1, false, (some .fnil), 8, .oth, none, (some 2)⟩
@[simp] theorem ti71_sz : ti71.sz = 1 := rfl
theorem ti71Ok : TIOk Try.prog 71 ti71 := ⟨by kernel_rfl, by kernel_rfl, fun z h => (by cases h; kernel_rfl), by kernel_rfl, trivial, fun ks h => (by cases h), by kernel_rfl⟩
def ti72 : TI := ⟨1, false, none, 0, .oth, none, none⟩
@[simp] theorem ti72_sz : ti72.sz = 1 := rfl
theorem ti72Ok : TIOk Try.prog 72 ti72 := ⟨by kernel_rfl, by kernel_rfl, fun z h => (by cases h), by kernel_rfl, trivial, fun ks h => (by cases h), by kernel_rfl⟩
def ti73 : TI := ⟨1, false, (some .fnil), 8, .oth, none, (some 2)⟩
@[simp] theorem ti73_sz : ti73.sz = 1 := rfl
theorem ti73Ok : TIOk Try.prog 73 ti73 := ⟨by kernel_rfl, by kernel_rfl, fun z h => (by cases h; kernel_rfl), by kernel_rfl, trivial, fun ks h => (by cases h), by kernel_rfl⟩
def ti74 : TI := ⟨1, false, (some .fnil), 8, .oth, none, (some 2)⟩
@[simp] theorem ti74_sz : ti74.sz = 1 := rfl
theorem ti74Ok : TIOk Try.prog 74 ti74 := ⟨by kernel_rfl, by kernel_rfl, fun z h => (by cases h; kernel_rfl), by kernel_rfl, trivial, fun ks h => (by cases h), by kernel_rfl⟩
def ti75 : TI := ⟨1, false, (some .fnil), 8, .oth, none, (some 2)⟩
@[simp] theorem ti75_sz : ti75.sz = 1 := rfl
theorem ti75Ok : TIOk Try.prog 75 ti75 := ⟨by kernel_rfl, by kernel_rfl, fun z h => (by cases h; kernel_rfl), by kernel_rfl, trivial, fun ks h => (by cases h), by kernel_rfl⟩
def ti76 : TI := ⟨1, false, (some .fnil), 8, .oth, none, (some 2)⟩
@[simp] theorem ti76_sz : ti76.sz = 1 := rfl
theorem ti76Ok : TIOk Try.prog 76 ti76 := ⟨by kernel_rfl, by kernel_rfl, fun z h => (by cases h; kernel_rfl), by kernel_rfl, trivial, fun ks h => (by cases h), by kernel_rfl⟩
def ti77 : TI := ⟨1, false, (some .fnil), 8, .oth, none, (some 2)⟩
@[simp] theorem ti77_sz : ti77.sz = 1 := rfl
theorem ti77Ok : TIOk Try.prog 77 ti77 := ⟨by kernel_rfl, by kernel_rfl, fun z h => (by cases h; kernel_rfl), by kernel_rfl, trivial, fun ks h => (by cases h), by kernel_rfl⟩
def ti78 : TI := ⟨1, false, (some .fnil), 8, .oth, none, (some 2)⟩
@[simp] theorem ti78_sz : ti78.sz = 1 := rfl
theorem ti78Ok : TIOk Try.prog 78 ti78 := ⟨by kernel_rfl, by kernel_rfl, fun z h => (by cases h; kernel_rfl), by kernel_rfl, trivial, fun ks h => (by cases h), by kernel_rfl⟩
def ti79 : TI := ⟨16, true, (some (.agg (List.replicate 16 (.u8 0)))), 16, (.arr 16 5), (some (List.replicate 16 1)), none⟩
@[simp] theorem ti79_sz : ti79.sz = 16 := rfl
theorem ti79Ok : TIOk Try.prog 79 ti79 := ⟨by kernel_rfl, by kernel_rfl, fun z h => (by cases h; kernel_rfl), by kernel_rfl, (by kernel_rfl : Try.prog.underlying 79 = _), fun ks h => (by cases h; exact ⟨by kernel_rfl, by kernel_rfl, by kernel_rfl⟩), by kernel_rfl⟩
def ti80 : TI := ⟨1, false, (some .fnil), 8, .oth, none, (some 2)⟩
@[simp] theorem ti80_sz : ti80.sz = 1 := rfl
theorem ti80Ok : TIOk Try.prog 80 ti80 := ⟨by kernel_rfl, by kernel_rfl, fun z h => (by cases h; kernel_rfl), by kernel_rfl, trivial, fun ks h => (by cases h), by kernel_rfl⟩
def ti81 : TI := ⟨1, false, (some .pnil), 8, .oth, none, (some 1)⟩
@[simp] theorem ti81_sz : ti81.sz = 1 := rfl
theorem ti81Ok : TIOk Try.prog 81 ti81 := ⟨by kernel_rfl, by kernel_rfl, fun z h => (by cases h; kernel_rfl), by kernel_rfl, trivial, fun ks h => (by cases h), by kernel_rfl⟩
def ti82 : TI := ⟨1, false, none, 0, .oth, none, none⟩
@[simp] theorem ti82_sz : ti82.sz = 1 := rfl
theorem ti82Ok : TIOk Try.prog 82 ti82 := ⟨by kernel_rfl, by kernel_rfl, fun z h => (by cases h), by kernel_rfl, trivial, fun ks h => (by cases h), by kernel_rfl⟩
def ti83 : TI := ⟨1, false, (some .fnil), 8, .oth, none, (some 2)⟩
@[simp] theorem ti83_sz : ti83.sz = 1 := rfl
theorem ti83Ok : TIOk Try.prog 83 ti83 := ⟨by kernel_rfl, by kernel_rfl, fun z h => (by cases h; kernel_rfl), by kernel_rfl, trivial, fun ks h => (by cases h), by kernel_rfl⟩
def ti84 : TI := ⟨1, false, (some .fnil), 8, .oth, none, (some 2)⟩
@[simp] theorem ti84_sz : ti84.sz = 1 := rfl
theorem ti84Ok : TIOk Try.prog 84 ti84 := ⟨by kernel_rfl, by kernel_rfl, fun z h => (by cases h; kernel_rfl), by kernel_rfl, trivial, fun ks h => (by cases h), by kernel_rfl⟩
def ti85 : TI := ⟨1, false, (some .fnil), 8, .oth, none, (some 2)⟩
@[simp] theorem ti85_sz : ti85.sz = 1 := rfl
theorem ti85Ok : TIOk Try.prog 85 ti85 := ⟨by kernel_rfl, by kernel_rfl, fun z h => (by cases h; kernel_rfl), by kernel_rfl, trivial, fun ks h => (by cases h), by kernel_rfl⟩
def ti86 : TI := ⟨1, false, (some .fnil), 8, .oth, none, (some 2)⟩
@[simp] theorem ti86_sz : ti86.sz = 1 := rfl
theorem ti86Ok : TIOk Try.prog 86 ti86 := ⟨by kernel_rfl, by kernel_rfl, fun z h => (by cases h; kernel_rfl), by kernel_rfl, trivial, fun ks h => (by cases h), by kernel_rfl⟩
def ti87 : TI := ⟨1, false, (some .fnil), 8, .oth, none, (some 2)⟩
@[simp] theorem ti87_sz : ti87.sz = 1 := rfl
theorem ti87Ok : TIOk Try.prog 87 ti87 := ⟨by kernel_rfl, by kernel_rfl, fun z h => (by cases h; kernel_rfl), by kernel_rfl, trivial, fun ks h => (by cases h), by kernel_rfl⟩
def ti88 : TI := ⟨1, false, (some .fnil), 8, .oth, none, (some 2)⟩
@[simp] theorem ti88_sz : ti88.sz = 1 := rfl
theorem ti88Ok : TIOk Try.prog 88 ti88 := ⟨by kernel_rfl, by kernel_rfl, fun z h => (by cases h; kernel_rfl), by kernel_rfl, trivial, fun ks h => (by cases h), by kernel_rfl⟩
def ti89 : TI := ⟨32, true, (some (.agg (List.replicate 32 (.u8 0)))), 32, (.arr 32 5), (some (List.replicate 32 1)), none⟩
@[simp] theorem ti89_sz : ti89.sz = 32 := rfl
theorem ti89Ok : TIOk Try.prog 89 ti89 := ⟨by kernel_rfl, by kernel_rfl, fun z h => (by cases h; kernel_rfl), by kernel_rfl, (by kernel_rfl : Try.prog.underlying 89 = _), fun ks h => (by cases h; exact ⟨by kernel_rfl, by kernel_rfl, by kernel_rfl⟩), by kernel_rfl⟩
def ti90 : TI := ⟨1, false, (some .fnil), 8, .oth, none, (some 2)⟩
@[simp] theorem ti90_sz : ti90.sz = 1 := rfl
theorem ti90Ok : TIOk Try.prog 90 ti90 := ⟨by kernel_rfl, by kernel_rfl, fun z h => (by cases h; kernel_rfl), by kernel_rfl, trivial, fun ks h => (by cases h), by kernel_rfl⟩
def ti91 : TI := ⟨1, false, (some .slnil), 24, (.slc 25), none, (some 3)⟩
@[simp] theorem ti91_sz : ti91.sz = 1 := rfl
theorem ti91Ok : TIOk Try.prog 91 ti91 := ⟨by kernel_rfl, by kernel_rfl, fun z h => (by cases h; kernel_rfl), by kernel_rfl, (by kernel_rfl : Try.prog.underlying 91 = _), fun ks h => (by cases h), by kernel_rfl⟩
def ti92 : TI := ⟨1, false, (some .fnil), 8, .oth, none, (some 2)⟩
@[simp] theorem ti92_sz : ti92.sz = 1 := rfl
theorem ti92Ok : TIOk Try.prog 92 ti92 := ⟨by kernel_rfl, by kernel_rfl, fun z h => (by cases h; kernel_rfl), by kernel_rfl, trivial, fun ks h => (by cases h), by kernel_rfl⟩
def ti93 : TI := ⟨1, false, none, 0, .oth, none, none⟩
@[simp] theorem ti93_sz : ti93.sz = 1 := rfl
theorem ti93Ok : TIOk Try.prog 93 ti93 := ⟨by kernel_rfl, by kernel_rfl, fun z h => (by cases h), by kernel_rfl, trivial, fun ks h => (by cases h), by kernel_rfl⟩
def ti94 : TI := ⟨1, false, (some .fnil), 8, .oth, none, (some 2)⟩
@[simp] theorem ti94_sz : ti94.sz = 1 := rfl
theorem ti94Ok : TIOk Try.prog 94 ti94 := ⟨by kernel_rfl, by kernel_rfl, fun z h => (by cases h; kernel_rfl), by kernel_rfl, trivial, fun ks h => (by cases h), by kernel_rfl⟩
def ti95 : TI := ⟨1, false, (some .fnil), 8, .oth, none, (some 2)⟩
@[simp] theorem ti95_sz : ti95.sz = 1 := rfl
theorem ti95Ok : TIOk Try.prog 95 ti95 := ⟨by kernel_rfl, by kernel_rfl, fun z h => (by cases h; kernel_rfl), by kernel_rfl, trivial, fun ks h => (by cases h), by kernel_rfl⟩
def ti96 : TI := ⟨1, false, (some .fnil), 8, .oth, none, (some 2)⟩
@[simp] theorem ti96_sz : ti96.sz = 1 := rfl
theorem ti96Ok : TIOk Try.prog 96 ti96 := ⟨by kernel_rfl, by kernel_rfl, fun z h => (by cases h; kernel_rfl), by kernel_rfl, trivial, fun ks h => (by cases h), by kernel_rfl⟩
def ti97 : TI := ⟨1, false, (some .fnil), 8, .oth, none, (some 2)⟩
@[simp] theorem ti97_sz : ti97.sz = 1 := rfl
theorem ti97Ok : TIOk Try.prog 97 ti97 := ⟨by kernel_rfl, by kernel_rfl, fun z h => (by cases h; kernel_rfl), by kernel_rfl, trivial, fun ks h => (by cases h), by kernel_rfl⟩
def ti98 : TI := ⟨1, false, (some .fnil), 8, .oth, none, (some 2)⟩
@[simp] theorem ti98_sz : ti98.sz = 1 := rfl
theorem ti98Ok : TIOk Try.prog 98 ti98 := ⟨by kernel_rfl, by kernel_rfl, fun z h => (by cases h; kernel_rfl), by kernel_rfl, trivial, fun ks h => (by cases h), by kernel_rfl⟩
def ti99 : TI := ⟨1, false, (some .fnil), 8, .oth, none, (some 2)⟩
@[simp] theorem ti99_sz : ti99.sz = 1 := rfl
theorem ti99Ok : TIOk Try.prog 99 ti99 := ⟨by kernel_rfl, by kernel_rfl, fun z h => (by cases h; kernel_rfl), by kernel_rfl, trivial, fun ks h => (by cases h), by kernel_rfl⟩
def ti100 : TI := ⟨1, false, (some .fnil), 8, .oth, none, (some 2)⟩
@[simp] theorem ti100_sz : ti100.sz = 1 := rfl
theorem ti100Ok : TIOk Try.prog 100 ti100 := ⟨by kernel_rfl, by kernel_rfl, fun z h => (by cases h; kernel_rfl), by kernel_rfl, trivial, fun ks h => (by cases h), by kernel_rfl⟩
def ti101 : TI := ⟨12, true, (some (.agg (List.replicate 12 (.u8 0)))), 12, (.arr 12 5), (some (List.replicate 12 1)), none⟩
@[simp] theorem ti101_sz : ti101.sz = 12 := rfl
theorem ti101Ok : TIOk Try.prog 101 ti101 := ⟨by kernel_rfl, by kernel_rfl, fun z h => (by cases h; kernel_rfl), by kernel_rfl, (by kernel_rfl : Try.prog.underlying 101 = _), fun ks h => (by cases h; exact ⟨by kernel_rfl, by kernel_rfl, by kernel_rfl⟩), by kernel_rfl⟩
def ti102 : TI := ⟨1, false, (some .fnil), 8, .oth, none, (some 2)⟩
@[simp] theorem ti102_sz : ti102.sz = 1 := rfl
theorem ti102Ok : TIOk Try.prog 102 ti102 := ⟨by kernel_rfl, by kernel_rfl, fun z h => (by cases h; kernel_rfl), by kernel_rfl, trivial, fun ks h => (by cases h), by kernel_rfl⟩
def ti103 : TI := ⟨1, false, (some .fnil), 8, .oth, none, (some 2)⟩
@[simp] theorem ti103_sz : ti103.sz = 1 := rfl
theorem ti103Ok : TIOk Try.prog 103 ti103 := ⟨by kernel_rfl, by kernel_rfl, fun z h => (by cases h; kernel_rfl), by kernel_rfl, trivial, fun ks h => (by cases h), by kernel_rfl⟩
def ti104 : TI := ⟨2, true, (some (.agg [.slnil, .slnil])), 48, (.st [(0, 25, 1), (1, 25, 1)]), none, none⟩
@[simp] theorem ti104_sz : ti104.sz = 2 := rfl
theorem ti104Ok : TIOk Try.prog 104 ti104 := ⟨by kernel_rfl, by kernel_rfl, fun z h => (by cases h; kernel_rfl), by kernel_rfl, ⟨by kernel_rfl, by kernel_rfl, by kernel_rfl⟩, fun ks h => (by cases h), by kernel_rfl⟩
def ti105 : TI := ⟨2, true, (some (.agg [.slnil, .slnil])), 48, (.st [(0, 25, 1), (1, 25, 1)]), none, none⟩
@[simp] theorem ti105_sz : ti105.sz = 2 := rfl
theorem ti105Ok : TIOk Try.prog 105 ti105 := ⟨by kernel_rfl, by kernel_rfl, fun z h => (by cases h; kernel_rfl), by kernel_rfl, ⟨by kernel_rfl, by kernel_rfl, by kernel_rfl⟩, fun ks h => (by cases h), by kernel_rfl⟩
def ti106 : TI := ⟨1, false, (some .fnil), 8, .oth, none, (some 2)⟩
@[simp] theorem ti106_sz : ti106.sz = 1 := rfl
theorem ti106Ok : TIOk Try.prog 106 ti106 := ⟨by kernel_rfl, by kernel_rfl, fun z h => (by cases h; kernel_rfl), by kernel_rfl, trivial, fun ks h => (by cases h), by kernel_rfl⟩
def ti107 : TI := ⟨1, false, (some .fnil), 8, .oth, none, (some 2)⟩
@[simp] theorem ti107_sz : ti107.sz = 1 := rfl
theorem ti107Ok : TIOk Try.prog 107 ti107 := ⟨by kernel_rfl, by kernel_rfl, fun z h => (by cases h; kernel_rfl), by kernel_rfl, trivial, fun ks h => (by cases h), by kernel_rfl⟩
def ti108 : TI := ⟨1, false, (some .fnil), 8, .oth, none, (some 2)⟩
@[simp] theorem ti108_sz : ti108.sz = 1 := rfl
theorem ti108Ok : TIOk Try.prog 108 ti108 := ⟨by kernel_rfl, by kernel_rfl, fun z h => (by cases h; kernel_rfl), by kernel_rfl, trivial, fun ks h => (by cases h), by kernel_rfl⟩
def ti109 : TI := ⟨1, false, (some .fnil), 8, .oth, none, (some 2)⟩
@[simp] theorem ti109_sz : ti109.sz = 1 := rfl
theorem ti109Ok : TIOk Try.prog 109 ti109 := ⟨by kernel_rfl, by kernel_rfl, fun z h => (by cases h; kernel_rfl), by kernel_rfl, trivial, fun ks h => (by cases h), by kernel_rfl⟩
def ti110 : TI := ⟨3, true, (some (.agg [(.u64 0), (.u64 0), (.s [])])), 32, (.st [(0, 24, 2), (2, 9, 1)]), (some [4, 4, 6]), none⟩
@[simp] theorem ti110_sz : ti110.sz = 3 := rfl
theorem ti110Ok : TIOk Try.prog 110 ti110 := ⟨by kernel_rfl, by kernel_rfl, fun z h => (by cases h; kernel_rfl), by kernel_rfl, ⟨by kernel_rfl, by kernel_rfl, by kernel_rfl⟩, fun ks h => (by cases h; exact ⟨by kernel_rfl, by kernel_rfl, by kernel_rfl⟩), by kernel_rfl⟩
def ti111 : TI := ⟨1, false, (some .slnil), 24, (.slc 110), none, (some 3)⟩
@[simp] theorem ti111_sz : ti111.sz = 1 := rfl
theorem ti111Ok : TIOk Try.prog 111 ti111 := ⟨by kernel_rfl, by kernel_rfl, fun z h => (by cases h; kernel_rfl), by kernel_rfl, (by kernel_rfl : Try.prog.underlying 111 = _), fun ks h => (by cases h), by kernel_rfl⟩
def ti112 : TI := ⟨1, false, (some .slnil), 24, (.slc 9), none, (some 3)⟩
@[simp] theorem ti112_sz : ti112.sz = 1 := rfl
theorem ti112Ok : TIOk Try.prog 112 ti112 := ⟨by kernel_rfl, by kernel_rfl, fun z h => (by cases h; kernel_rfl), by kernel_rfl, (by kernel_rfl : Try.prog.underlying 112 = _), fun ks h => (by cases h), by kernel_rfl⟩
def ti113 : TI := ⟨1, false, (some .fnil), 8, .oth, none, (some 2)⟩
@[simp] theorem ti113_sz : ti113.sz = 1 := rfl
theorem ti113Ok : TIOk Try.prog 113 ti113 := ⟨by kernel_rfl, by kernel_rfl, fun z h => (by cases h; kernel_rfl), by kernel_rfl, trivial, fun ks h => (by cases h), by kernel_rfl⟩
def ti114 : TI := ⟨2, true, (some (.agg [(.u64 0), (.u64 0)])), 16, (.arr 2 22), (some [4, 4]), none⟩
@[simp] theorem ti114_sz : ti114.sz = 2 := rfl
theorem ti114Ok : TIOk Try.prog 114 ti114 := ⟨by kernel_rfl, by kernel_rfl, fun z h => (by cases h; kernel_rfl), by kernel_rfl, (by kernel_rfl : Try.prog.underlying 114 = _), fun ks h => (by cases h; exact ⟨by kernel_rfl, by kernel_rfl, by kernel_rfl⟩), by kernel_rfl⟩
def ti115 : TI := ⟨1, false, (some (.u64 0)), 8, (.int .u64), none, none⟩
@[simp] theorem ti115_sz : ti115.sz = 1 := rfl
theorem ti115Ok : TIOk Try.prog 115 ti115 := ⟨by kernel_rfl, by kernel_rfl, fun z h => (by cases h; kernel_rfl), by kernel_rfl, (by kernel_rfl : Try.prog.underlying 115 = _), fun ks h => (by cases h), by kernel_rfl⟩
def ti116 : TI := ⟨2, true, (some (.agg [(.u8 0), (.u8 0)])), 2, (.arr 2 5), (some [1, 1]), none⟩
@[simp] theorem ti116_sz : ti116.sz = 2 := rfl
theorem ti116Ok : TIOk Try.prog 116 ti116 := ⟨by kernel_rfl, by kernel_rfl, fun z h => (by cases h; kernel_rfl), by kernel_rfl, (by kernel_rfl : Try.prog.underlying 116 = _), fun ks h => (by cases h; exact ⟨by kernel_rfl, by kernel_rfl, by kernel_rfl⟩), by kernel_rfl⟩
def ti117 : TI := ⟨2, true, (some (.agg [.slnil, (.i 0)])), 32, (.st [(0, 45, 1), (1, 3, 1)]), none, none⟩
@[simp] theorem ti117_sz : ti117.sz = 2 := rfl
theorem ti117Ok : TIOk Try.prog 117 ti117 := ⟨by kernel_rfl, by kernel_rfl, fun z h => (by cases h; kernel_rfl), by kernel_rfl, ⟨by kernel_rfl, by kernel_rfl, by kernel_rfl⟩, fun ks h => (by cases h), by kernel_rfl⟩
def ti118 : TI := ⟨2, true, (some (.agg [.slnil, (.i 0)])), 32, (.st [(0, 45, 1), (1, 3, 1)]), none, none⟩
@[simp] theorem ti118_sz : ti118.sz = 2 := rfl
theorem ti118Ok : TIOk Try.prog 118 ti118 := ⟨by kernel_rfl, by kernel_rfl, fun z h => (by cases h; kernel_rfl), by kernel_rfl, ⟨by kernel_rfl, by kernel_rfl, by kernel_rfl⟩, fun ks h => (by cases h), by kernel_rfl⟩
def ti119 : TI := ⟨1, false, (some .fnil), 8, .oth, none, (some 2)⟩
@[simp] theorem ti119_sz : ti119.sz = 1 := rfl
theorem ti119Ok : TIOk Try.prog 119 ti119 := ⟨by kernel_rfl, by kernel_rfl, fun z h => (by cases h; kernel_rfl), by kernel_rfl, trivial, fun ks h => (by cases h), by kernel_rfl⟩
def ti120 : TI := ⟨1, false, (some .fnil), 8, .oth, none, (some 2)⟩
@[simp] theorem ti120_sz : ti120.sz = 1 := rfl
theorem ti120Ok : TIOk Try.prog 120 ti120 := ⟨by kernel_rfl, by kernel_rfl, fun z h => (by cases h; kernel_rfl), by kernel_rfl, trivial, fun ks h => (by cases h), by kernel_rfl⟩
def ti121 : TI := ⟨1, false, (some .fnil), 8, .oth, none, (some 2)⟩
@[simp] theorem ti121_sz : ti121.sz = 1 := rfl
theorem ti121Ok : TIOk Try.prog 121 ti121 := ⟨by kernel_rfl, by kernel_rfl, fun z h => (by cases h; kernel_rfl), by kernel_rfl, trivial, fun ks h => (by cases h), by kernel_rfl⟩
def ti122 : TI := ⟨2, true, (some (.agg [.slnil, (.i 0)])), 32, (.st [(0, 46, 1), (1, 3, 1)]), none, none⟩
@[simp] theorem ti122_sz : ti122.sz = 2 := rfl
theorem ti122Ok : TIOk Try.prog 122 ti122 := ⟨by kernel_rfl, by kernel_rfl, fun z h => (by cases h; kernel_rfl), by kernel_rfl, ⟨by kernel_rfl, by kernel_rfl, by kernel_rfl⟩, fun ks h => (by cases h), by kernel_rfl⟩
def ti123 : TI := ⟨2, true, (some (.agg [.slnil, (.i 0)])), 32, (.st [(0, 46, 1), (1, 3, 1)]), none, none⟩
@[simp] theorem ti123_sz : ti123.sz = 2 := rfl
theorem ti123Ok : TIOk Try.prog 123 ti123 := ⟨by kernel_rfl, by kernel_rfl, fun z h => (by cases h; kernel_rfl), by kernel_rfl, ⟨by kernel_rfl, by kernel_rfl, by kernel_rfl⟩, fun ks h => (by cases h), by kernel_rfl⟩
def ti124 : TI := ⟨1, false, (some .fnil), 8, .oth, none, (some 2)⟩
@[simp] theorem ti124_sz : ti124.sz = 1 := rfl
theorem ti124Ok : TIOk Try.prog 124 ti124 := ⟨by kernel_rfl, by kernel_rfl, fun z h => (by cases h; kernel_rfl), by kernel_rfl, trivial, fun ks h => (by cases h), by kernel_rfl⟩
def ti125 : TI := ⟨1, false, (some .fnil), 8, .oth, none, (some 2)⟩
@[simp] theorem ti125_sz : ti125.sz = 1 := rfl
theorem ti125Ok : TIOk Try.prog 125 ti125 := ⟨by kernel_rfl, by kernel_rfl, fun z h => (by cases h; kernel_rfl), by kernel_rfl, trivial, fun ks h => (by cases h), by kernel_rfl⟩
def ti126 : TI := ⟨1, false, (some .fnil), 8, .oth, none, (some 2)⟩
@[simp] theorem ti126_sz : ti126.sz = 1 := rfl
theorem ti126Ok : TIOk Try.prog 126 ti126 := ⟨by kernel_rfl, by kernel_rfl, fun z h => (by cases h; kernel_rfl), by kernel_rfl, trivial, fun ks h => (by cases h), by kernel_rfl⟩
def ti127 : TI := ⟨1, false, (some .fnil), 8, .oth, none, (some 2)⟩
@[simp] theorem ti127_sz : ti127.sz = 1 := rfl
theorem ti127Ok : TIOk Try.prog 127 ti127 := ⟨by kernel_rfl, by kernel_rfl, fun z h => (by cases h; kernel_rfl), by kernel_rfl, trivial, fun ks h => (by cases h), by kernel_rfl⟩
def ti128 : TI := ⟨256, true, (some (.agg (List.replicate 256 (.u8 0)))), 256, (.arr 256 5), (some (List.replicate 256 1)), none⟩
@[simp] theorem ti128_sz : ti128.sz = 256 := rfl
theorem ti128Ok : TIOk Try.prog 128 ti128 := ⟨by kernel_rfl, by kernel_rfl, fun z h => (by cases h; kernel_rfl), by kernel_rfl, (by kernel_rfl : Try.prog.underlying 128 = _), fun ks h => (by cases h; exact ⟨by kernel_rfl, by kernel_rfl, by kernel_rfl⟩), by kernel_rfl⟩
def ti129 : TI := ⟨1, false, (some .fnil), 8, .oth, none, (some 2)⟩
@[simp] theorem ti129_sz : ti129.sz = 1 := rfl
theorem ti129Ok : TIOk Try.prog 129 ti129 := ⟨by kernel_rfl, by kernel_rfl, fun z h => (by cases h; kernel_rfl), by kernel_rfl, trivial, fun ks h => (by cases h), by kernel_rfl⟩
def ti130 : TI := ⟨1, false, (some .fnil), 8, .oth, none, (some 2)⟩
@[simp] theorem ti130_sz : ti130.sz = 1 := rfl
theorem ti130Ok : TIOk Try.prog 130 ti130 := ⟨by kernel_rfl, by kernel_rfl, fun z h => (by cases h; kernel_rfl), by kernel_rfl, trivial, fun ks h => (by cases h), by kernel_rfl⟩
def ti131 : TI := ⟨1, false, (some .fnil), 8, .oth, none, (some 2)⟩
@[simp] theorem ti131_sz : ti131.sz = 1 := rfl
theorem ti131Ok : TIOk Try.prog 131 ti131 := ⟨by kernel_rfl, by kernel_rfl, fun z h => (by cases h; kernel_rfl), by kernel_rfl, trivial, fun ks h => (by cases h), by kernel_rfl⟩
def ti132 : TI := ⟨1, false, (some .fnil), 8, .oth, none, (some 2)⟩
@[simp] theorem ti132_sz : ti132.sz = 1 := rfl
theorem ti132Ok : TIOk Try.prog 132 ti132 := ⟨by kernel_rfl, by kernel_rfl, fun z h => (by cases h; kernel_rfl), by kernel_rfl, trivial, fun ks h => (by cases h), by kernel_rfl⟩
def ti133 : TI := ⟨1, false, (some .slnil), 24, (.slc 137), none, (some 3)⟩
@[simp] theorem ti133_sz : ti133.sz = 1 := rfl
theorem ti133Ok : TIOk Try.prog 133 ti133 := ⟨by kernel_rfl, by kernel_rfl, fun z h => (by cases h; kernel_rfl), by kernel_rfl, (by kernel_rfl : Try.prog.underlying 133 = _), fun ks h => (by cases h), by kernel_rfl⟩
def ti134 : TI := ⟨257, true, (some (.agg (List.replicate 256 (.u8 0) ++ [.slnil]))), 280, (.st [(0, 128, 256), (256, 133, 1)]), none, none⟩
@[simp] theorem ti134_sz : ti134.sz = 257 := rfl
theorem ti134Ok : TIOk Try.prog 134 ti134 := ⟨by kernel_rfl, by kernel_rfl, fun z h => (by cases h; kernel_rfl), by kernel_rfl, ⟨by kernel_rfl, by kernel_rfl, by kernel_rfl⟩, fun ks h => (by cases h), by kernel_rfl⟩
def ti135 : TI := ⟨257, true, (some (.agg (List.replicate 256 (.u8 0) ++ [.slnil]))), 280, (.st [(0, 128, 256), (256, 133, 1)]), none, none⟩
@[simp] theorem ti135_sz : ti135.sz = 257 := rfl
theorem ti135Ok : TIOk Try.prog 135 ti135 := ⟨by kernel_rfl, by kernel_rfl, fun z h => (by cases h; kernel_rfl), by kernel_rfl, ⟨by kernel_rfl, by kernel_rfl, by kernel_rfl⟩, fun ks h => (by cases h), by kernel_rfl⟩
def ti136 : TI := ⟨4, true, (some (.agg [(.u8 0), (.u8 0), (.u8 0), (.u8 0)])), 4, (.arr 4 5), (some [1, 1, 1, 1]), none⟩
@[simp] theorem ti136_sz : ti136.sz = 4 := rfl
theorem ti136Ok : TIOk Try.prog 136 ti136 := ⟨by kernel_rfl, by kernel_rfl, fun z h => (by cases h; kernel_rfl), by kernel_rfl, (by kernel_rfl : Try.prog.underlying 136 = _), fun ks h => (by cases h; exact ⟨by kernel_rfl, by kernel_rfl, by kernel_rfl⟩), by kernel_rfl⟩
def ti137 : TI := ⟨4, true, (some (.agg [(.u8 0), (.u8 0), (.u8 0), (.u8 0)])), 4, (.arr 4 5), (some [1, 1, 1, 1]), none⟩
@[simp] theorem ti137_sz : ti137.sz = 4 := rfl
theorem ti137Ok : TIOk Try.prog 137 ti137 := ⟨by kernel_rfl, by kernel_rfl, fun z h => (by cases h; kernel_rfl), by kernel_rfl, (by kernel_rfl : Try.prog.underlying 137 = _), fun ks h => (by cases h; exact ⟨by kernel_rfl, by kernel_rfl, by kernel_rfl⟩), by kernel_rfl⟩
def ti138 : TI := ⟨1, false, (some .fnil), 8, .oth, none, (some 2)⟩
@[simp] theorem ti138_sz : ti138.sz = 1 := rfl
theorem ti138Ok : TIOk Try.prog 138 ti138 := ⟨by kernel_rfl, by kernel_rfl, fun z h => (by cases h; kernel_rfl), by kernel_rfl, trivial, fun ks h => (by cases h), by kernel_rfl⟩
def ti139 : TI := ⟨16, true, (some (.agg (List.replicate 16 (.u8 0)))), 16, (.arr 4 137), (some (List.replicate 16 1)), none⟩
@[simp] theorem ti139_sz : ti139.sz = 16 := rfl
theorem ti139Ok : TIOk Try.prog 139 ti139 := ⟨by kernel_rfl, by kernel_rfl, fun z h => (by cases h; kernel_rfl), by kernel_rfl, (by kernel_rfl : Try.prog.underlying 139 = _), fun ks h => (by cases h; exact ⟨by kernel_rfl, by kernel_rfl, by kernel_rfl⟩), by kernel_rfl⟩
def ti140 : TI := ⟨1, false, (some .fnil), 8, .oth, none, (some 2)⟩
@[simp] theorem ti140_sz : ti140.sz = 1 := rfl
theorem ti140Ok : TIOk Try.prog 140 ti140 := ⟨by kernel_rfl, by kernel_rfl, fun z h => (by cases h; kernel_rfl), by kernel_rfl, trivial, fun ks h => (by cases h), by kernel_rfl⟩
def ti141 : TI := ⟨1, false, (some .fnil), 8, .oth, none, (some 2)⟩
@[simp] theorem ti141_sz : ti141.sz = 1 := rfl
theorem ti141Ok : TIOk Try.prog 141 ti141 := ⟨by kernel_rfl, by kernel_rfl, fun z h => (by cases h; kernel_rfl), by kernel_rfl, trivial, fun ks h => (by cases h), by kernel_rfl⟩
def ti142 : TI := ⟨1, false, (some .fnil), 8, .oth, none, (some 2)⟩
@[simp] theorem ti142_sz : ti142.sz = 1 := rfl
theorem ti142Ok : TIOk Try.prog 142 ti142 := ⟨by kernel_rfl, by kernel_rfl, fun z h => (by cases h; kernel_rfl), by kernel_rfl, trivial, fun ks h => (by cases h), by kernel_rfl⟩
def ti143 : TI := ⟨1, false, (some .fnil), 8, .oth, none, (some 2)⟩
@[simp] theorem ti143_sz : ti143.sz = 1 := rfl
theorem ti143Ok : TIOk Try.prog 143 ti143 := ⟨by kernel_rfl, by kernel_rfl, fun z h => (by cases h; kernel_rfl), by kernel_rfl, trivial, fun ks h => (by cases h), by kernel_rfl⟩
def ti144 : TI := ⟨1, false, (some .fnil), 8, .oth, none, (some 2)⟩
@[simp] theorem ti144_sz : ti144.sz = 1 := rfl
theorem ti144Ok : TIOk Try.prog 144 ti144 := ⟨by kernel_rfl, by kernel_rfl, fun z h => (by cases h; kernel_rfl), by kernel_rfl, trivial, fun ks h => (by cases h), by kernel_rfl⟩
def ti145 : TI := ⟨1, false, (some .fnil), 8, .oth, none, (some 2)⟩
@[simp] theorem ti145_sz : ti145.sz = 1 := rfl
theorem ti145Ok : TIOk Try.prog 145 ti145 := ⟨by kernel_rfl, by kernel_rfl, fun z h => (by cases h; kernel_rfl), by kernel_rfl, trivial, fun ks h => (by cases h), by kernel_rfl⟩
def ti146 : TI := ⟨1, false, (some .fnil), 8, .oth, none, (some 2)⟩
@[simp] theorem ti146_sz : ti146.sz = 1 := rfl
theorem ti146Ok : TIOk Try.prog 146 ti146 := ⟨by kernel_rfl, by kernel_rfl, fun z h => (by cases h; kernel_rfl), by kernel_rfl, trivial, fun ks h => (by cases h), by kernel_rfl⟩
def ti147 : TI := ⟨2, true, (some (.agg [(.u64 0), (.u64 0)])), 16, (.st [(0, 22, 1), (1, 22, 1)]), (some [4, 4]), none⟩
@[simp] theorem ti147_sz : ti147.sz = 2 := rfl
theorem ti147Ok : TIOk Try.prog 147 ti147 := ⟨by kernel_rfl, by kernel_rfl, fun z h => (by cases h; kernel_rfl), by kernel_rfl, ⟨by kernel_rfl, by kernel_rfl, by kernel_rfl⟩, fun ks h => (by cases h; exact ⟨by kernel_rfl, by kernel_rfl, by kernel_rfl⟩), by kernel_rfl⟩
def ti148 : TI := ⟨2, true, (some (.agg [(.u64 0), (.u64 0)])), 16, (.st [(0, 22, 1), (1, 22, 1)]), (some [4, 4]), none⟩
@[simp] theorem ti148_sz : ti148.sz = 2 := rfl
theorem ti148Ok : TIOk Try.prog 148 ti148 := ⟨by kernel_rfl, by kernel_rfl, fun z h => (by cases h; kernel_rfl), by kernel_rfl, ⟨by kernel_rfl, by kernel_rfl, by kernel_rfl⟩, fun ks h => (by cases h; exact ⟨by kernel_rfl, by kernel_rfl, by kernel_rfl⟩), by kernel_rfl⟩
def ti149 : TI := ⟨1, false, (some .fnil), 8, .oth, none, (some 2)⟩
@[simp] theorem ti149_sz : ti149.sz = 1 := rfl
theorem ti149Ok : TIOk Try.prog 149 ti149 := ⟨by kernel_rfl, by kernel_rfl, fun z h => (by cases h; kernel_rfl), by kernel_rfl, trivial, fun ks h => (by cases h), by kernel_rfl⟩
def ti150 : TI := ⟨1, false, (some .fnil), 8, .oth, none, (some 2)⟩
@[simp] theorem ti150_sz : ti150.sz = 1 := rfl
theorem ti150Ok : TIOk Try.prog 150 ti150 := ⟨by kernel_rfl, by kernel_rfl, fun z h => (by cases h; kernel_rfl), by kernel_rfl, trivial, fun ks h => (by cases h), by kernel_rfl⟩
def ti151 : TI := ⟨1, false, (some .fnil), 8, .oth, none, (some 2)⟩
@[simp] theorem ti151_sz : ti151.sz = 1 := rfl
theorem ti151Ok : TIOk Try.prog 151 ti151 := ⟨by kernel_rfl, by kernel_rfl, fun z h => (by cases h; kernel_rfl), by kernel_rfl, trivial, fun ks h => (by cases h), by kernel_rfl⟩
def ti152 : TI := ⟨1, false, (some .fnil), 8, .oth, none, (some 2)⟩
@[simp] theorem ti152_sz : ti152.sz = 1 := rfl
theorem ti152Ok : TIOk Try.prog 152 ti152 := ⟨by kernel_rfl, by kernel_rfl, fun z h => (by cases h; kernel_rfl), by kernel_rfl, trivial, fun ks h => (by cases h), by kernel_rfl⟩
def ti153 : TI := ⟨1, false, (some .fnil), 8, .oth, none, (some 2)⟩
@[simp] theorem ti153_sz : ti153.sz = 1 := rfl
theorem ti153Ok : TIOk Try.prog 153 ti153 := ⟨by kernel_rfl, by kernel_rfl, fun z h => (by cases h; kernel_rfl), by kernel_rfl, trivial, fun ks h => (by cases h), by kernel_rfl⟩
def ti154 : TI := ⟨1, false, (some .fnil), 8, .oth, none, (some 2)⟩
@[simp] theorem ti154_sz : ti154.sz = 1 := rfl
theorem ti154Ok : TIOk Try.prog 154 ti154 := ⟨by kernel_rfl, by kernel_rfl, fun z h => (by cases h; kernel_rfl), by kernel_rfl, trivial, fun ks h => (by cases h), by kernel_rfl⟩
def ti155 : TI := ⟨255, true, (some (.agg (List.replicate 255 (.u8 0)))), 255, (.arr 255 5), (some (List.replicate 255 1)), none⟩
@[simp] theorem ti155_sz : ti155.sz = 255 := rfl
theorem ti155Ok : TIOk Try.prog 155 ti155 := ⟨by kernel_rfl, by kernel_rfl, fun z h => (by cases h; kernel_rfl), by kernel_rfl, (by kernel_rfl : Try.prog.underlying 155 = _), fun ks h => (by cases h; exact ⟨by kernel_rfl, by kernel_rfl, by kernel_rfl⟩), by kernel_rfl⟩
def ti156 : TI := ⟨256, true, (some (.agg (List.replicate 256 (.i 0)))), 2048, (.arr 256 3), (some (List.replicate 256 0)), none⟩
@[simp] theorem ti156_sz : ti156.sz = 256 := rfl
theorem ti156Ok : TIOk Try.prog 156 ti156 := ⟨by kernel_rfl, by kernel_rfl, fun z h => (by cases h; kernel_rfl), by kernel_rfl, (by kernel_rfl : Try.prog.underlying 156 = _), fun ks h => (by cases h; exact ⟨by kernel_rfl, by kernel_rfl, by kernel_rfl⟩), by kernel_rfl⟩
def ti157 : TI := ⟨1, false, none, 0, .oth, none, none⟩
@[simp] theorem ti157_sz : ti157.sz = 1 := rfl
theorem ti157Ok : TIOk Try.prog 157 ti157 := ⟨by kernel_rfl, by kernel_rfl, fun z h => (by cases h), by kernel_rfl, trivial, fun ks h => (by cases h), by kernel_rfl⟩
def ti158 : TI := ⟨1, false, (some .fnil), 8, .oth, none, (some 2)⟩
@[simp] theorem ti158_sz : ti158.sz = 1 := rfl
theorem ti158Ok : TIOk Try.prog 158 ti158 := ⟨by kernel_rfl, by kernel_rfl, fun z h => (by cases h; kernel_rfl), by kernel_rfl, trivial, fun ks h => (by cases h), by kernel_rfl⟩
def ti159 : TI := ⟨1, false, (some .fnil), 8, .oth, none, (some 2)⟩
@[simp] theorem ti159_sz : ti159.sz = 1 := rfl
theorem ti159Ok : TIOk Try.prog 159 ti159 := ⟨by kernel_rfl, by kernel_rfl, fun z h => (by cases h; kernel_rfl), by kernel_rfl, trivial, fun ks h => (by cases h), by kernel_rfl⟩
def ti160 : TI := ⟨1, false, (some .fnil), 8, .oth, none, (some 2)⟩
@[simp] theorem ti160_sz : ti160.sz = 1 := rfl
theorem ti160Ok : TIOk Try.prog 160 ti160 := ⟨by kernel_rfl, by kernel_rfl, fun z h => (by cases h; kernel_rfl), by kernel_rfl, trivial, fun ks h => (by cases h), by kernel_rfl⟩
def ti161 : TI := ⟨1, false, (some .fnil), 8, .oth, none, (some 2)⟩
@[simp] theorem ti161_sz : ti161.sz = 1 := rfl
theorem ti161Ok : TIOk Try.prog 161 ti161 := ⟨by kernel_rfl, by kernel_rfl, fun z h => (by cases h; kernel_rfl), by kernel_rfl, trivial, fun ks h => (by cases h), by kernel_rfl⟩
def ti162 : TI := ⟨1, false, (some .fnil), 8, .oth, none, (some 2)⟩
@[simp] theorem ti162_sz : ti162.sz = 1 := rfl
theorem ti162Ok : TIOk Try.prog 162 ti162 := ⟨by kernel_rfl, by kernel_rfl, fun z h => (by cases h; kernel_rfl), by kernel_rfl, trivial, fun ks h => (by cases h), by kernel_rfl⟩
def ti163 : TI := ⟨1, false, (some .fnil), 8, .oth, none, (some 2)⟩
@[simp] theorem ti163_sz : ti163.sz = 1 := rfl
theorem ti163Ok : TIOk Try.prog 163 ti163 := ⟨by kernel_rfl, by kernel_rfl, fun z h => (by cases h; kernel_rfl), by kernel_rfl, trivial, fun ks h => (by cases h), by kernel_rfl⟩
def ti164 : TI := ⟨4, true, (some (.agg [.pnil, .pnil, .pnil, (.s [])])), 40, (.st [(0, 17, 1), (1, 17, 1), (2, 17, 1), (3, 9, 1)]), none, none⟩
@[simp] theorem ti164_sz : ti164.sz = 4 := rfl
theorem ti164Ok : TIOk Try.prog 164 ti164 := ⟨by kernel_rfl, by kernel_rfl, fun z h => (by cases h; kernel_rfl), by kernel_rfl, ⟨by kernel_rfl, by kernel_rfl, by kernel_rfl⟩, fun ks h => (by cases h), by kernel_rfl⟩
def ti165 : TI := ⟨4, true, (some (.agg [.pnil, .pnil, .pnil, (.s [])])), 40, (.st [(0, 17, 1), (1, 17, 1), (2, 17, 1), (3, 9, 1)]), none, none⟩
@[simp] theorem ti165_sz : ti165.sz = 4 := rfl
theorem ti165Ok : TIOk Try.prog 165 ti165 := ⟨by kernel_rfl, by kernel_rfl, fun z h => (by cases h; kernel_rfl), by kernel_rfl, ⟨by kernel_rfl, by kernel_rfl, by kernel_rfl⟩, fun ks h => (by cases h), by kernel_rfl⟩
def ti166 : TI := ⟨0, true, (some (.agg [])), 0, (.arr 0 16), none, none⟩
@[simp] theorem ti166_sz : ti166.sz = 0 := rfl
theorem ti166Ok : TIOk Try.prog 166 ti166 := ⟨by kernel_rfl, by kernel_rfl, fun z h => (by cases h; kernel_rfl), by kernel_rfl, (by kernel_rfl : Try.prog.underlying 166 = _), fun ks h => (by cases h), by kernel_rfl⟩
def ti167 : TI := ⟨0, true, (some (.agg [])), 0, (.st [(0, 166, 0)]), none, none⟩
@[simp] theorem ti167_sz : ti167.sz = 0 := rfl
theorem ti167Ok : TIOk Try.prog 167 ti167 := ⟨by kernel_rfl, by kernel_rfl, fun z h => (by cases h; kernel_rfl), by kernel_rfl, ⟨by kernel_rfl, by kernel_rfl, by kernel_rfl⟩, fun ks h => (by cases h), by kernel_rfl⟩
def ti168 : TI := ⟨0, true, (some (.agg [])), 0, (.st [(0, 166, 0)]), none, none⟩
@[simp] theorem ti168_sz : ti168.sz = 0 := rfl
theorem ti168Ok : TIOk Try.prog 168 ti168 := ⟨by kernel_rfl, by kernel_rfl, fun z h => (by cases h; kernel_rfl), by kernel_rfl, ⟨by kernel_rfl, by kernel_rfl, by kernel_rfl⟩, fun ks h => (by cases h), by kernel_rfl⟩
def ti169 : TI := ⟨1, false, (some (.u8 0)), 1, (.int .u8), none, none⟩
@[simp] theorem ti169_sz : ti169.sz = 1 := rfl
theorem ti169Ok : TIOk Try.prog 169 ti169 := ⟨by kernel_rfl, by kernel_rfl, fun z h => (by cases h; kernel_rfl), by kernel_rfl, (by kernel_rfl : Try.prog.underlying 169 = _), fun ks h => (by cases h), by kernel_rfl⟩
def ti170 : TI := ⟨1, false, (some (.u8 0)), 1, (.int .u8), none, none⟩
@[simp] theorem ti170_sz : ti170.sz = 1 := rfl
theorem ti170Ok : TIOk Try.prog 170 ti170 := ⟨by kernel_rfl, by kernel_rfl, fun z h => (by cases h; kernel_rfl), by kernel_rfl, (by kernel_rfl : Try.prog.underlying 170 = _), fun ks h => (by cases h), by kernel_rfl⟩
def ti171 : TI := ⟨1, false, (some .fnil), 8, .oth, none, (some 2)⟩
@[simp] theorem ti171_sz : ti171.sz = 1 := rfl
theorem ti171Ok : TIOk Try.prog 171 ti171 := ⟨by kernel_rfl, by kernel_rfl, fun z h => (by cases h; kernel_rfl), by kernel_rfl, trivial, fun ks h => (by cases h), by kernel_rfl⟩
def ti172 : TI := ⟨1, false, (some .pnil), 8, .oth, none, (some 1)⟩
@[simp] theorem ti172_sz : ti172.sz = 1 := rfl
theorem ti172Ok : TIOk Try.prog 172 ti172 := ⟨by kernel_rfl, by kernel_rfl, fun z h => (by cases h; kernel_rfl), by kernel_rfl, trivial, fun ks h => (by cases h), by kernel_rfl⟩
def ti173 : TI := ⟨1, false, none, 4, (.int .i32), none, none⟩
@[simp] theorem ti173_sz : ti173.sz = 1 := rfl
theorem ti173Ok : TIOk Try.prog 173 ti173 := ⟨by kernel_rfl, by kernel_rfl, fun z h => (by cases h), by kernel_rfl, (by kernel_rfl : Try.prog.underlying 173 = _), fun ks h => (by cases h), by kernel_rfl⟩
def ti174 : TI := ⟨1, false, none, 4, (.int .i32), none, none⟩
@[simp] theorem ti174_sz : ti174.sz = 1 := rfl
theorem ti174Ok : TIOk Try.prog 174 ti174 := ⟨by kernel_rfl, by kernel_rfl, fun z h => (by cases h), by kernel_rfl, (by kernel_rfl : Try.prog.underlying 174 = _), fun ks h => (by cases h), by kernel_rfl⟩
def ti175 : TI := ⟨11, true, none, 48, (.st [(0, 12, 1), (1, 12, 1), (2, 49, 1), (3, 169, 1), (4, 5, 1), (5, 5, 1), (6, 170, 1), (7, 171, 1), (8, 172, 1), (9, 173, 1), (10, 174, 1)]), none, none⟩
@[simp] theorem ti175_sz : ti175.sz = 11 := rfl
theorem ti175Ok : TIOk Try.prog 175 ti175 := ⟨by kernel_rfl, by kernel_rfl, fun z h => (by cases h), by kernel_rfl, ⟨by kernel_rfl, by kernel_rfl, by kernel_rfl⟩, fun ks h => (by cases h), by kernel_rfl⟩
def ti176 : TI := ⟨11, true, none, 48, (.st [(0, 12, 1), (1, 12, 1), (2, 49, 1), (3, 169, 1), (4, 5, 1), (5, 5, 1), (6, 170, 1), (7, 171, 1), (8, 172, 1), (9, 173, 1), (10, 174, 1)]), none, none⟩
@[simp] theorem ti176_sz : ti176.sz = 11 := rfl
theorem ti176Ok : TIOk Try.prog 176 ti176 := ⟨by kernel_rfl, by kernel_rfl, fun z h => (by cases h), by kernel_rfl, ⟨by kernel_rfl, by kernel_rfl, by kernel_rfl⟩, fun ks h => (by cases h), by kernel_rfl⟩
def ti177 : TI := ⟨1, false, (some .pnil), 8, .oth, none, none⟩
@[simp] theorem ti177_sz : ti177.sz = 1 := rfl
theorem ti177Ok : TIOk Try.prog 177 ti177 := ⟨by kernel_rfl, by kernel_rfl, fun z h => (by cases h; kernel_rfl), by kernel_rfl, trivial, fun ks h => (by cases h), by kernel_rfl⟩
def tt : TT := [(0, ti0), (1, ti1), (2, ti2), (3, ti3), (4, ti4), (5, ti5), (6, ti6), (7, ti7), (8, ti8), (9, ti9), (10, ti10), (11, ti11), (12, ti12), (13, ti13), (14, ti14), (15, ti15), (16, ti16), (17, ti17), (18, ti18), (19, ti19), (20, ti20), (21, ti21), (22, ti22), (23, ti23), (24, ti24), (25, ti25), (26, ti26), (27, ti27), (28, ti28), (29, ti29), (30, ti30), (31, ti31), (32, ti32), (33, ti33), (34, ti34), (35, ti35), (36, ti36), (37, ti37), (38, ti38), (39, ti39), (40, ti40), (41, ti41), (42, ti42), (43, ti43), (44, ti44), (45, ti45), (46, ti46), (47, ti47), (48, ti48), (49, ti49), (50, ti50), (51, ti51), (52, ti52), (53, ti53), (54, ti54), (55, ti55), (56, ti56), (57, ti57), (58, ti58), (59, ti59), (60, ti60), (61, ti61), (62, ti62), (63, ti63), (64, ti64), (65, ti65), (66, ti66), (67, ti67), (68, ti68), (69, ti69), (70, ti70), (71, ti71), (72, ti72), (73, ti73), (74, ti74), (75, ti75), (76, ti76), (77, ti77), (78, ti78), (79, ti79), (80, ti80), (81, ti81), (82, ti82), (83, ti83), (84, ti84), (85, ti85), (86, ti86), (87, ti87), (88, ti88), (89, ti89), (90, ti90), (91, ti91), (92, ti92), (93, ti93), (94, ti94), (95, ti95), (96, ti96), (97, ti97), (98, ti98), (99, ti99), (100, ti100), (101, ti101), (102, ti102), (103, ti103), (104, ti104), (105, ti105), (106, ti106), (107, ti107), (108, ti108), (109, ti109), (110, ti110), (111, ti111), (112, ti112), (113, ti113), (114, ti114), (115, ti115), (116, ti116), (117, ti117), (118, ti118), (119, ti119), (120, ti120), (121, ti121), (122, ti122), (123, ti123), (124, ti124), (125, ti125), (126, ti126), (127, ti127), (128, ti128), (129, ti129), (130, ti130), (131, ti131), (132, ti132), (133, ti133), (134, ti134), (135, ti135), (136, ti136), (137, ti137), (138, ti138), (139, ti139), (140, ti140), (141, ti141), (142, ti142), (143, ti143), (144, ti144), (145, ti145), (146, ti146), (147, ti147), (148, ti148), (149, ti149), (150, ti150), (151, ti151), (152, ti152), (153, ti153), (154, ti154), (155, ti155), (156, ti156), (157, ti157), (158, ti158), (159, ti159), (160, ti160), (161, ti161), (162, ti162), (163, ti163), (164, ti164), (165, ti165), (166, ti166), (167, ti167), (168, ti168), (169, ti169), (170, ti170), (171, ti171), (172, ti172), (173, ti173), (174, ti174), (175, ti175), (176, ti176), (177, ti177)]
theorem ttOk : TOk Try.prog tt := TOk.of ⟨ti0Ok, ti1Ok, ti2Ok, ti3Ok, ti4Ok, ti5Ok, ti6Ok, ti7Ok, ti8Ok, ti9Ok, ti10Ok, ti11Ok, ti12Ok, ti13Ok, ti14Ok, ti15Ok, ti16Ok, ti17Ok, ti18Ok, ti19Ok, ti20Ok, ti21Ok, ti22Ok, ti23Ok, ti24Ok, ti25Ok, ti26Ok, ti27Ok, ti28Ok, ti29Ok, ti30Ok, ti31Ok, ti32Ok, ti33Ok, ti34Ok, ti35Ok, ti36Ok, ti37Ok, ti38Ok, ti39Ok, ti40Ok, ti41Ok, ti42Ok, ti43Ok, ti44Ok, ti45Ok, ti46Ok, ti47Ok, ti48Ok, ti49Ok, ti50Ok, ti51Ok, ti52Ok, ti53Ok, ti54Ok, ti55Ok, ti56Ok, ti57Ok, ti58Ok, ti59Ok, ti60Ok, ti61Ok, ti62Ok, ti63Ok, ti64Ok, ti65Ok, ti66Ok, ti67Ok, ti68Ok, ti69Ok, ti70Ok, ti71Ok, ti72Ok, ti73Ok, ti74Ok, ti75Ok, ti76Ok, ti77Ok, ti78Ok, ti79Ok, ti80Ok, ti81Ok, ti82Ok, ti83Ok, ti84Ok, ti85Ok, ti86Ok, ti87Ok, ti88Ok, ti89Ok, ti90Ok, ti91Ok, ti92Ok, ti93Ok, ti94Ok, ti95Ok, ti96Ok, ti97Ok, ti98Ok, ti99Ok, ti100Ok, ti101Ok, ti102Ok, ti103Ok, ti104Ok, ti105Ok, ti106Ok, ti107Ok, ti108Ok, ti109Ok, ti110Ok, ti111Ok, ti112Ok, ti113Ok, ti114Ok, ti115Ok, ti116Ok, ti117Ok, ti118Ok, ti119Ok, ti120Ok, ti121Ok, ti122Ok, ti123Ok, ti124Ok, ti125Ok, ti126Ok, ti127Ok, ti128Ok, ti129Ok, ti130Ok, ti131Ok, ti132Ok, ti133Ok, ti134Ok, ti135Ok, ti136Ok, ti137Ok, ti138Ok, ti139Ok, ti140Ok, ti141Ok, ti142Ok, ti143Ok, ti144Ok, ti145Ok, ti146Ok, ti147Ok, ti148Ok, ti149Ok, ti150Ok, ti151Ok, ti152Ok, ti153Ok, ti154Ok, ti155Ok, ti156Ok, ti157Ok, ti158Ok, ti159Ok, ti160Ok, ti161Ok, ti162Ok, ti163Ok, ti164Ok, ti165Ok, ti166Ok, ti167Ok, ti168Ok, ti169Ok, ti170Ok, ti171Ok, ti172Ok, ti173Ok, ti174Ok, ti175Ok, ti176Ok, ti177Ok, trivial⟩
theorem mixed : Try.prog.follows .mixedOrders = true := by kernel_rfl
end Go.Sh
