/- The types, as the operations ask for them. Printed by a tool of this repo. No project text. -/
import Derived.Test.YtlilmkblggifaaaAmD
import Derived.KernelRfl
import Derived.Test.YtlilmkblggifaaaProg
namespace Go.AM
open Go.Proofs
@[simp] theorem try_ti0 : Cx.T' Try.prog 0 = some ⟨.other, 1, 0, [.any]⟩ := by kernel_rfl
@[simp] theorem try_ti1 : Cx.T' Try.prog 1 = some ⟨.fn, 1, 8, [.nofn]⟩ := by kernel_rfl
@[simp] theorem try_ti2 : Cx.T' Try.prog 2 = some ⟨.int .i64, 1, 8, [.i .i64 0]⟩ := by kernel_rfl
@[simp] theorem try_ti3 : Cx.T' Try.prog 3 = some ⟨.int .i64, 1, 8, [.i .i64 0]⟩ := by kernel_rfl
@[simp] theorem try_ti4 : Cx.T' Try.prog 4 = some ⟨.bool, 1, 1, [.b false]⟩ := by kernel_rfl
@[simp] theorem try_ti5 : Cx.T' Try.prog 5 = some ⟨.int .u8, 1, 1, [.i .u8 0]⟩ := by kernel_rfl
@[simp] theorem try_ti6 : Cx.T' Try.prog 6 = some ⟨.int .u8, 1, 1, [.i .u8 0]⟩ := by kernel_rfl
@[simp] theorem try_ti7 : Cx.T' Try.prog 7 = some ⟨.strct [(0, 2), (1, 3), (2, 4), (3, 6)], 4, 24, [.i .i64 0, .i .i64 0, .b false, .i .u8 0]⟩ := by kernel_rfl
@[simp] theorem try_ti8 : Cx.T' Try.prog 8 = some ⟨.strct [(0, 2), (1, 3), (2, 4), (3, 6)], 4, 24, [.i .i64 0, .i .i64 0, .b false, .i .u8 0]⟩ := by kernel_rfl
@[simp] theorem try_ti9 : Cx.T' Try.prog 9 = some ⟨.str, 1, 16, [.s ByteArray.empty]⟩ := by kernel_rfl
@[simp] theorem try_ti10 : Cx.T' Try.prog 10 = some ⟨.str, 1, 16, [.s ByteArray.empty]⟩ := by kernel_rfl
@[simp] theorem try_ti11 : Cx.T' Try.prog 11 = some ⟨.str, 1, 16, [.s ByteArray.empty]⟩ := by kernel_rfl
@[simp] theorem try_ti12 : Cx.T' Try.prog 12 = some ⟨.int .u64, 1, 8, [.i .u64 0]⟩ := by kernel_rfl
@[simp] theorem try_ti13 : Cx.T' Try.prog 13 = some ⟨.strct [(0, 9), (1, 12)], 2, 24, [.s ByteArray.empty, .i .u64 0]⟩ := by kernel_rfl
@[simp] theorem try_ti14 : Cx.T' Try.prog 14 = some ⟨.strct [(0, 9), (1, 12)], 2, 24, [.s ByteArray.empty, .i .u64 0]⟩ := by kernel_rfl
@[simp] theorem try_ti15 : Cx.T' Try.prog 15 = some ⟨.ptr 235, 1, 8, [.nil]⟩ := by kernel_rfl
@[simp] theorem try_ti16 : Cx.T' Try.prog 16 = some ⟨.ptr 238, 1, 8, [.nil]⟩ := by kernel_rfl
@[simp] theorem try_ti17 : Cx.T' Try.prog 17 = some ⟨.ptr 247, 1, 8, [.nil]⟩ := by kernel_rfl
@[simp] theorem try_ti18 : Cx.T' Try.prog 18 = some ⟨.strct [(0, 17)], 1, 8, [.nil]⟩ := by kernel_rfl
@[simp] theorem try_ti19 : Cx.T' Try.prog 19 = some ⟨.strct [(0, 17)], 1, 8, [.nil]⟩ := by kernel_rfl
@[simp] theorem try_ti20 : Cx.T' Try.prog 20 = some ⟨.other, 1, 16, [.any]⟩ := by kernel_rfl
@[simp] theorem try_ti21 : Cx.T' Try.prog 21 = some ⟨.int .i32, 1, 4, [.i .i32 0]⟩ := by kernel_rfl
@[simp] theorem try_ti22 : Cx.T' Try.prog 22 = some ⟨.slice 34, 1, 24, [.sl .nl 5 []]⟩ := by kernel_rfl
@[simp] theorem try_ti23 : Cx.T' Try.prog 23 = some ⟨.fn, 1, 8, [.nofn]⟩ := by kernel_rfl
@[simp] theorem try_ti24 : Cx.T' Try.prog 24 = some ⟨.fn, 1, 8, [.nofn]⟩ := by kernel_rfl
@[simp] theorem try_ti25 : Cx.T' Try.prog 25 = some ⟨.ptr 44, 1, 8, [.nil]⟩ := by kernel_rfl
@[simp] theorem try_ti26 : Cx.T' Try.prog 26 = some ⟨.fn, 1, 8, [.nofn]⟩ := by kernel_rfl
@[simp] theorem try_ti27 : Cx.T' Try.prog 27 = some ⟨.slice 32, 1, 24, [.sl .nl 3 []]⟩ := by kernel_rfl
@[simp] theorem try_ti28 : Cx.T' Try.prog 28 = some ⟨.other, 1, 0, [.any]⟩ := by kernel_rfl
@[simp] theorem try_ti29 : Cx.T' Try.prog 29 = some ⟨.fn, 1, 8, [.nofn]⟩ := by kernel_rfl
@[simp] theorem try_ti30 : Cx.T' Try.prog 30 = some ⟨.slice 5, 1, 24, [.sl .nl 1 []]⟩ := by kernel_rfl
@[simp] theorem try_ti31 : Cx.T' Try.prog 31 = some ⟨.strct [(0, 3), (1, 3), (2, 30)], 3, 40, [.i .i64 0, .i .i64 0, .sl .nl 1 []]⟩ := by kernel_rfl
@[simp] theorem try_ti32 : Cx.T' Try.prog 32 = some ⟨.strct [(0, 3), (1, 3), (2, 30)], 3, 40, [.i .i64 0, .i .i64 0, .sl .nl 1 []]⟩ := by kernel_rfl
@[simp] theorem try_ti33 : Cx.T' Try.prog 33 = some ⟨.strct [(0, 3), (1, 32), (4, 3)], 5, 56, [.i .i64 0, .i .i64 0, .i .i64 0, .sl .nl 1 [], .i .i64 0]⟩ := by kernel_rfl
@[simp] theorem try_ti34 : Cx.T' Try.prog 34 = some ⟨.strct [(0, 3), (1, 32), (4, 3)], 5, 56, [.i .i64 0, .i .i64 0, .i .i64 0, .sl .nl 1 [], .i .i64 0]⟩ := by kernel_rfl
@[simp] theorem try_ti35 : Cx.T' Try.prog 35 = some ⟨.slice 3, 1, 24, [.sl .nl 1 []]⟩ := by kernel_rfl
@[simp] theorem try_ti36 : Cx.T' Try.prog 36 = some ⟨.fn, 1, 8, [.nofn]⟩ := by kernel_rfl
@[simp] theorem try_ti37 : Cx.T' Try.prog 37 = some ⟨.fn, 1, 8, [.nofn]⟩ := by kernel_rfl
@[simp] theorem try_ti38 : Cx.T' Try.prog 38 = some ⟨.fn, 1, 8, [.nofn]⟩ := by kernel_rfl
@[simp] theorem try_ti39 : Cx.T' Try.prog 39 = some ⟨.fn, 1, 8, [.nofn]⟩ := by kernel_rfl
@[simp] theorem try_ti40 : Cx.T' Try.prog 40 = some ⟨.int .i64, 1, 8, [.i .i64 0]⟩ := by kernel_rfl
@[simp] theorem try_ti41 : Cx.T' Try.prog 41 = some ⟨.fn, 1, 8, [.nofn]⟩ := by kernel_rfl
@[simp] theorem try_ti42 : Cx.T' Try.prog 42 = some ⟨.fn, 1, 8, [.nofn]⟩ := by kernel_rfl
@[simp] theorem try_ti43 : Cx.T' Try.prog 43 = some ⟨.strct [(0, 27), (1, 4)], 2, 32, [.sl .nl 3 [], .b false]⟩ := by kernel_rfl
@[simp] theorem try_ti44 : Cx.T' Try.prog 44 = some ⟨.strct [(0, 27), (1, 4)], 2, 32, [.sl .nl 3 [], .b false]⟩ := by kernel_rfl
@[simp] theorem try_ti45 : Cx.T' Try.prog 45 = some ⟨.other, 1, 0, [.any]⟩ := by kernel_rfl
@[simp] theorem try_ti46 : Cx.T' Try.prog 46 = some ⟨.fn, 1, 8, [.nofn]⟩ := by kernel_rfl
@[simp] theorem try_ti47 : Cx.T' Try.prog 47 = some ⟨.fn, 1, 8, [.nofn]⟩ := by kernel_rfl
@[simp] theorem try_ti48 : Cx.T' Try.prog 48 = some ⟨.slice 9, 1, 24, [.sl .nl 1 []]⟩ := by kernel_rfl
@[simp] theorem try_ti49 : Cx.T' Try.prog 49 = some ⟨.slice 73, 1, 24, [.sl .nl 5 []]⟩ := by kernel_rfl
@[simp] theorem try_ti50 : Cx.T' Try.prog 50 = some ⟨.slice 113, 1, 24, [.sl .nl 2 []]⟩ := by kernel_rfl
@[simp] theorem try_ti51 : Cx.T' Try.prog 51 = some ⟨.strct [(0, 48), (1, 48), (2, 48), (3, 49), (4, 50)], 5, 120, [.sl .nl 1 [], .sl .nl 1 [], .sl .nl 1 [], .sl .nl 5 [], .sl .nl 2 []]⟩ := by kernel_rfl
@[simp] theorem try_ti52 : Cx.T' Try.prog 52 = some ⟨.strct [(0, 48), (1, 48), (2, 48), (3, 49), (4, 50)], 5, 120, [.sl .nl 1 [], .sl .nl 1 [], .sl .nl 1 [], .sl .nl 5 [], .sl .nl 2 []]⟩ := by kernel_rfl
@[simp] theorem try_ti53 : Cx.T' Try.prog 53 = some ⟨.slice 48, 1, 24, [.sl .nl 1 []]⟩ := by kernel_rfl
@[simp] theorem try_ti54 : Cx.T' Try.prog 54 = some ⟨.slice 115, 1, 24, [.sl .nl 1 []]⟩ := by kernel_rfl
@[simp] theorem try_ti55 : Cx.T' Try.prog 55 = some ⟨.strct [(0, 53), (1, 54)], 2, 48, [.sl .nl 1 [], .sl .nl 1 []]⟩ := by kernel_rfl
@[simp] theorem try_ti56 : Cx.T' Try.prog 56 = some ⟨.strct [(0, 53), (1, 54)], 2, 48, [.sl .nl 1 [], .sl .nl 1 []]⟩ := by kernel_rfl
@[simp] theorem try_ti57 : Cx.T' Try.prog 57 = some ⟨.strct [(0, 3), (1, 9), (2, 3)], 3, 32, [.i .i64 0, .s ByteArray.empty, .i .i64 0]⟩ := by kernel_rfl
@[simp] theorem try_ti58 : Cx.T' Try.prog 58 = some ⟨.strct [(0, 3), (1, 9), (2, 3)], 3, 32, [.i .i64 0, .s ByteArray.empty, .i .i64 0]⟩ := by kernel_rfl
@[simp] theorem try_ti59 : Cx.T' Try.prog 59 = some ⟨.fn, 1, 8, [.nofn]⟩ := by kernel_rfl
@[simp] theorem try_ti60 : Cx.T' Try.prog 60 = some ⟨.fn, 1, 8, [.nofn]⟩ := by kernel_rfl
@[simp] theorem try_ti61 : Cx.T' Try.prog 61 = some ⟨.fn, 1, 8, [.nofn]⟩ := by kernel_rfl
@[simp] theorem try_ti62 : Cx.T' Try.prog 62 = some ⟨.other, 1, 0, [.any]⟩ := by kernel_rfl
@[simp] theorem try_ti63 : Cx.T' Try.prog 63 = some ⟨.fn, 1, 8, [.nofn]⟩ := by kernel_rfl
@[simp] theorem try_ti64 : Cx.T' Try.prog 64 = some ⟨.fn, 1, 8, [.nofn]⟩ := by kernel_rfl
@[simp] theorem try_ti65 : Cx.T' Try.prog 65 = some ⟨.fn, 1, 8, [.nofn]⟩ := by kernel_rfl
@[simp] theorem try_ti66 : Cx.T' Try.prog 66 = some ⟨.fn, 1, 8, [.nofn]⟩ := by kernel_rfl
@[simp] theorem try_ti67 : Cx.T' Try.prog 67 = some ⟨.fn, 1, 8, [.nofn]⟩ := by kernel_rfl
@[simp] theorem try_ti68 : Cx.T' Try.prog 68 = some ⟨.fn, 1, 8, [.nofn]⟩ := by kernel_rfl
@[simp] theorem try_ti69 : Cx.T' Try.prog 69 = some ⟨.fn, 1, 8, [.nofn]⟩ := by kernel_rfl
@[simp] theorem try_ti70 : Cx.T' Try.prog 70 = some ⟨.fn, 1, 8, [.nofn]⟩ := by kernel_rfl
@[simp] theorem try_ti71 : Cx.T' Try.prog 71 = some ⟨.fn, 1, 8, [.nofn]⟩ := by kernel_rfl
@[simp] theorem try_ti72 : Cx.T' Try.prog 72 = some ⟨.strct [(0, 3), (1, 4), (2, 3), (3, 3), (4, 3)], 5, 40, [.i .i64 0, .b false, .i .i64 0, .i .i64 0, .i .i64 0]⟩ := by kernel_rfl
@[simp] theorem try_ti73 : Cx.T' Try.prog 73 = some ⟨.strct [(0, 3), (1, 4), (2, 3), (3, 3), (4, 3)], 5, 40, [.i .i64 0, .b false, .i .i64 0, .i .i64 0, .i .i64 0]⟩ := by kernel_rfl
@[simp] theorem try_ti74 : Cx.T' Try.prog 74 = some ⟨.fn, 1, 8, [.nofn]⟩ := by kernel_rfl
@[simp] theorem try_ti75 : Cx.T' Try.prog 75 = some ⟨.fn, 1, 8, [.nofn]⟩ := by kernel_rfl
@[simp] theorem try_ti76 : Cx.T' Try.prog 76 = some ⟨.fn, 1, 8, [.nofn]⟩ := by kernel_rfl
@[simp] theorem try_ti77 : Cx.T' Try.prog 77 = some ⟨.fn, 1, 8, [.nofn]⟩ := by kernel_rfl
@[simp] theorem try_ti78 : Cx.T' Try.prog 78 = some ⟨.fn, 1, 8, [.nofn]⟩ := by kernel_rfl
@[simp] theorem try_ti79 : Cx.T' Try.prog 79 = some ⟨.strct [(0, 3), (1, 3)], 2, 16, [.i .i64 0, .i .i64 0]⟩ := by kernel_rfl
@[simp] theorem try_ti80 : Cx.T' Try.prog 80 = some ⟨.strct [(0, 3), (1, 3)], 2, 16, [.i .i64 0, .i .i64 0]⟩ := by kernel_rfl
@[simp] theorem try_ti81 : Cx.T' Try.prog 81 = some ⟨.fn, 1, 8, [.nofn]⟩ := by kernel_rfl
@[simp] theorem try_ti82 : Cx.T' Try.prog 82 = some ⟨.fn, 1, 8, [.nofn]⟩ := by kernel_rfl
@[simp] theorem try_ti83 : Cx.T' Try.prog 83 = some ⟨.slice 3, 1, 24, [.sl .nl 1 []]⟩ := by kernel_rfl
@[simp] theorem try_ti84 : Cx.T' Try.prog 84 = some ⟨.slice 80, 1, 24, [.sl .nl 2 []]⟩ := by kernel_rfl
@[simp] theorem try_ti85 : Cx.T' Try.prog 85 = some ⟨.strct [(0, 83), (1, 84)], 2, 48, [.sl .nl 1 [], .sl .nl 2 []]⟩ := by kernel_rfl
@[simp] theorem try_ti86 : Cx.T' Try.prog 86 = some ⟨.strct [(0, 83), (1, 84)], 2, 48, [.sl .nl 1 [], .sl .nl 2 []]⟩ := by kernel_rfl
@[simp] theorem try_ti87 : Cx.T' Try.prog 87 = some ⟨.fn, 1, 8, [.nofn]⟩ := by kernel_rfl
@[simp] theorem try_ti88 : Cx.T' Try.prog 88 = some ⟨.other, 1, 0, [.any]⟩ := by kernel_rfl
@[simp] theorem try_ti89 : Cx.T' Try.prog 89 = some ⟨.fn, 1, 8, [.nofn]⟩ := by kernel_rfl
@[simp] theorem try_ti90 : Cx.T' Try.prog 90 = some ⟨.fn, 1, 8, [.nofn]⟩ := by kernel_rfl
@[simp] theorem try_ti91 : Cx.T' Try.prog 91 = some ⟨.fn, 1, 8, [.nofn]⟩ := by kernel_rfl
@[simp] theorem try_ti92 : Cx.T' Try.prog 92 = some ⟨.fn, 1, 8, [.nofn]⟩ := by kernel_rfl
@[simp] theorem try_ti93 : Cx.T' Try.prog 93 = some ⟨.fn, 1, 8, [.nofn]⟩ := by kernel_rfl
@[simp] theorem try_ti94 : Cx.T' Try.prog 94 = some ⟨.fn, 1, 8, [.nofn]⟩ := by kernel_rfl
@[simp] theorem try_ti95 : Cx.T' Try.prog 95 = some ⟨.fn, 1, 8, [.nofn]⟩ := by kernel_rfl
@[simp] theorem try_ti96 : Cx.T' Try.prog 96 = some ⟨.fn, 1, 8, [.nofn]⟩ := by kernel_rfl
@[simp] theorem try_ti97 : Cx.T' Try.prog 97 = some ⟨.fn, 1, 8, [.nofn]⟩ := by kernel_rfl
@[simp] theorem try_ti98 : Cx.T' Try.prog 98 = some ⟨.fn, 1, 8, [.nofn]⟩ := by kernel_rfl
@[simp] theorem try_ti99 : Cx.T' Try.prog 99 = some ⟨.fn, 1, 8, [.nofn]⟩ := by kernel_rfl
@[simp] theorem try_ti100 : Cx.T' Try.prog 100 = some ⟨.fn, 1, 8, [.nofn]⟩ := by kernel_rfl
@[simp] theorem try_ti101 : Cx.T' Try.prog 101 = some ⟨.fn, 1, 8, [.nofn]⟩ := by kernel_rfl
@[simp] theorem try_ti102 : Cx.T' Try.prog 102 = some ⟨.fn, 1, 8, [.nofn]⟩ := by kernel_rfl
@[simp] theorem try_ti103 : Cx.T' Try.prog 103 = some ⟨.fn, 1, 8, [.nofn]⟩ := by kernel_rfl
@[simp] theorem try_ti104 : Cx.T' Try.prog 104 = some ⟨.fn, 1, 8, [.nofn]⟩ := by kernel_rfl
@[simp] theorem try_ti105 : Cx.T' Try.prog 105 = some ⟨.fn, 1, 8, [.nofn]⟩ := by kernel_rfl
@[simp] theorem try_ti106 : Cx.T' Try.prog 106 = some ⟨.fn, 1, 8, [.nofn]⟩ := by kernel_rfl
@[simp] theorem try_ti107 : Cx.T' Try.prog 107 = some ⟨.fn, 1, 8, [.nofn]⟩ := by kernel_rfl
@[simp] theorem try_ti108 : Cx.T' Try.prog 108 = some ⟨.fn, 1, 8, [.nofn]⟩ := by kernel_rfl
@[simp] theorem try_ti109 : Cx.T' Try.prog 109 = some ⟨.fn, 1, 8, [.nofn]⟩ := by kernel_rfl
@[simp] theorem try_ti110 : Cx.T' Try.prog 110 = some ⟨.fn, 1, 8, [.nofn]⟩ := by kernel_rfl
@[simp] theorem try_ti111 : Cx.T' Try.prog 111 = some ⟨.slice 132, 1, 24, [.sl .nl 3 []]⟩ := by kernel_rfl
@[simp] theorem try_ti112 : Cx.T' Try.prog 112 = some ⟨.strct [(0, 9), (1, 111)], 2, 40, [.s ByteArray.empty, .sl .nl 3 []]⟩ := by kernel_rfl
@[simp] theorem try_ti113 : Cx.T' Try.prog 113 = some ⟨.strct [(0, 9), (1, 111)], 2, 40, [.s ByteArray.empty, .sl .nl 3 []]⟩ := by kernel_rfl
@[simp] theorem try_ti114 : Cx.T' Try.prog 114 = some ⟨.fn, 1, 8, [.nofn]⟩ := by kernel_rfl
@[simp] theorem try_ti115 : Cx.T' Try.prog 115 = some ⟨.slice 122, 1, 24, [.sl .nl 2 []]⟩ := by kernel_rfl
@[simp] theorem try_ti116 : Cx.T' Try.prog 116 = some ⟨.fn, 1, 8, [.nofn]⟩ := by kernel_rfl
@[simp] theorem try_ti117 : Cx.T' Try.prog 117 = some ⟨.fn, 1, 8, [.nofn]⟩ := by kernel_rfl
@[simp] theorem try_ti118 : Cx.T' Try.prog 118 = some ⟨.fn, 1, 8, [.nofn]⟩ := by kernel_rfl
@[simp] theorem try_ti119 : Cx.T' Try.prog 119 = some ⟨.fn, 1, 8, [.nofn]⟩ := by kernel_rfl
@[simp] theorem try_ti120 : Cx.T' Try.prog 120 = some ⟨.fn, 1, 8, [.nofn]⟩ := by kernel_rfl
@[simp] theorem try_ti121 : Cx.T' Try.prog 121 = some ⟨.strct [(0, 9), (1, 3)], 2, 24, [.s ByteArray.empty, .i .i64 0]⟩ := by kernel_rfl
@[simp] theorem try_ti122 : Cx.T' Try.prog 122 = some ⟨.strct [(0, 9), (1, 3)], 2, 24, [.s ByteArray.empty, .i .i64 0]⟩ := by kernel_rfl
@[simp] theorem try_ti123 : Cx.T' Try.prog 123 = some ⟨.fn, 1, 8, [.nofn]⟩ := by kernel_rfl
@[simp] theorem try_ti124 : Cx.T' Try.prog 124 = some ⟨.fn, 1, 8, [.nofn]⟩ := by kernel_rfl
@[simp] theorem try_ti125 : Cx.T' Try.prog 125 = some ⟨.fn, 1, 8, [.nofn]⟩ := by kernel_rfl
@[simp] theorem try_ti126 : Cx.T' Try.prog 126 = some ⟨.fn, 1, 8, [.nofn]⟩ := by kernel_rfl
@[simp] theorem try_ti127 : Cx.T' Try.prog 127 = some ⟨.fn, 1, 8, [.nofn]⟩ := by kernel_rfl
@[simp] theorem try_ti128 : Cx.T' Try.prog 128 = some ⟨.fn, 1, 8, [.nofn]⟩ := by kernel_rfl
@[simp] theorem try_ti129 : Cx.T' Try.prog 129 = some ⟨.fn, 1, 8, [.nofn]⟩ := by kernel_rfl
@[simp] theorem try_ti130 : Cx.T' Try.prog 130 = some ⟨.fn, 1, 8, [.nofn]⟩ := by kernel_rfl
end Go.AM
