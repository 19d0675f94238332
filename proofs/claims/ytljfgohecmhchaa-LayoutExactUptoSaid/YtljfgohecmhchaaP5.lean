import Derived.KernelRfl
import Derived.Test.YtljfgohecmhchaaP4
set_option linter.all false
section
namespace Go.Proofs.Ytljfgohecmhchaa
theorem mixed : Try.prog.follows .mixedOrders = true := by kernel_rfl
theorem t1 : tyOf Try.prog 1 = some ⟨1, 8, [.nilFunc], .fn⟩ := by kernel_rfl -- func()
theorem t2 : tyOf Try.prog 2 = some ⟨1, 8, [.int .i64 0], .int .i64⟩ := by kernel_rfl -- int64
theorem t3 : tyOf Try.prog 3 = some ⟨1, 8, [.int .i64 0], .int .i64⟩ := by kernel_rfl -- int
theorem t4 : tyOf Try.prog 4 = some ⟨1, 1, [.bool false], .bool⟩ := by kernel_rfl -- bool
theorem t5 : tyOf Try.prog 5 = some ⟨1, 1, [.int .u8 0], .int .u8⟩ := by kernel_rfl -- uint8
theorem t6 : tyOf Try.prog 6 = some ⟨1, 1, [.int .u8 0], .int .u8⟩ := by kernel_rfl -- abi.BoundsErrorCode
theorem t7 : tyOf Try.prog 7 = some ⟨4, 24, [.int .i64 0, .int .i64 0, .bool false, .int .u8 0], .strct [(0, 2), (1, 3), (2, 4), (3, 6)] true⟩ := by kernel_rfl -- struct%20{%20x%20int64;%20y%20int;%20signed%20bool;%20code%2
theorem t8 : tyOf Try.prog 8 = some ⟨4, 24, [.int .i64 0, .int .i64 0, .bool false, .int .u8 0], .strct [(0, 2), (1, 3), (2, 4), (3, 6)] true⟩ := by kernel_rfl -- runtime.boundsError
theorem t9 : tyOf Try.prog 9 = some ⟨1, 16, [.string ByteArray.empty], .str⟩ := by kernel_rfl -- string
theorem t10 : tyOf Try.prog 10 = some ⟨1, 16, [.string ByteArray.empty], .str⟩ := by kernel_rfl -- runtime.errorString
theorem t11 : tyOf Try.prog 11 = some ⟨1, 16, [.string ByteArray.empty], .str⟩ := by kernel_rfl -- runtime.plainError
theorem t12 : tyOf Try.prog 12 = some ⟨1, 8, [.int .u64 0], .int .u64⟩ := by kernel_rfl -- uintptr
theorem t15 : tyOf Try.prog 15 = some ⟨1, 8, [.pointer none], .ptr 119⟩ := by kernel_rfl -- *runtime.TypeAssertionError
theorem t16 : tyOf Try.prog 16 = some ⟨1, 8, [.pointer none], .ptr 122⟩ := by kernel_rfl -- *runtime.PanicNilError
theorem t17 : tyOf Try.prog 17 = some ⟨1, 8, [.pointer none], .ptr 132⟩ := by kernel_rfl -- *abi.Type
theorem t20 : tyOf Try.prog 20 = some ⟨1, 16, [.nilIface], .iface⟩ := by kernel_rfl -- interface%20{}
theorem t21 : tyOf Try.prog 21 = some ⟨1, 4, [.int .i32 0], .int .i32⟩ := by kernel_rfl -- int32
theorem t22 : tyOf Try.prog 22 = some ⟨1, 24, [.slice none 0 0], .slice 60⟩ := by kernel_rfl -- []api.Type
theorem t23 : tyOf Try.prog 23 = some ⟨1, 24, [.slice none 0 0], .slice 64⟩ := by kernel_rfl -- []api.Root
theorem t24 : tyOf Try.prog 24 = some ⟨2, 48, [.slice none 0 0, .slice none 0 0], .strct [(0, 22), (1, 23)] true⟩ := by kernel_rfl -- struct%20{%20Types%20[]api.Type;%20Roots%20[]api.Root%20}
theorem t25 : tyOf Try.prog 25 = some ⟨2, 48, [.slice none 0 0, .slice none 0 0], .strct [(0, 22), (1, 23)] true⟩ := by kernel_rfl -- api.Schema
theorem t26 : tyOf Try.prog 26 = some ⟨1, 8, [.nilFunc], .fn⟩ := by kernel_rfl -- func()%20bool
theorem t27 : tyOf Try.prog 27 = some ⟨1, 8, [.nilFunc], .fn⟩ := by kernel_rfl -- func(api.Schema,%20int)%20api.Schema
theorem t28 : tyOf Try.prog 28 = some ⟨1, 24, [.slice none 0 0], .slice 40⟩ := by kernel_rfl -- []api.Instr
theorem t29 : tyOf Try.prog 29 = some ⟨1, 24, [.slice none 0 0], .slice 3⟩ := by kernel_rfl -- []int
theorem t30 : tyOf Try.prog 30 = some ⟨3, 56, [.bool false, .slice none 0 0, .slice none 0 0], .strct [(0, 4), (1, 28), (2, 29)] true⟩ := by kernel_rfl -- struct%20{%20Encodes%20bool;%20Code%20[]api.Instr;%20Entry%2
theorem t31 : tyOf Try.prog 31 = some ⟨3, 56, [.bool false, .slice none 0 0, .slice none 0 0], .strct [(0, 4), (1, 28), (2, 29)] true⟩ := by kernel_rfl -- api.Program
theorem t32 : tyOf Try.prog 32 = some ⟨1, 8, [.int .i64 0], .int .i64⟩ := by kernel_rfl -- api.Errno
theorem t34 : tyOf Try.prog 34 = some ⟨1, 8, [.nilFunc], .fn⟩ := by kernel_rfl -- func(api.Schema)%20(api.Program,%20api.Errno)
theorem t35 : tyOf Try.prog 35 = some ⟨1, 8, [.nilFunc], .fn⟩ := by kernel_rfl -- func(api.Errno)%20int
theorem t36 : tyOf Try.prog 36 = some ⟨2, 16, [.int .i64 0, .int .i64 0], .strct [(0, 32), (1, 3)] true⟩ := by kernel_rfl -- struct%20{%20Err%20api.Errno;%20At%20int%20}
theorem t37 : tyOf Try.prog 37 = some ⟨2, 16, [.int .i64 0, .int .i64 0], .strct [(0, 32), (1, 3)] true⟩ := by kernel_rfl -- api.Fault
theorem t38 : tyOf Try.prog 38 = some ⟨1, 8, [.nilFunc], .fn⟩ := by kernel_rfl -- func(api.Schema)%20api.Fault
theorem t39 : tyOf Try.prog 39 = some ⟨4, 32, [.int .i64 0, .int .i64 0, .int .i64 0, .int .i64 0], .strct [(0, 3), (1, 3), (2, 3), (3, 3)] true⟩ := by kernel_rfl -- struct%20{%20Op%20int;%20A%20int;%20B%20int;%20C%20int%20}
theorem t40 : tyOf Try.prog 40 = some ⟨4, 32, [.int .i64 0, .int .i64 0, .int .i64 0, .int .i64 0], .strct [(0, 3), (1, 3), (2, 3), (3, 3)] true⟩ := by kernel_rfl -- api.Instr
theorem t41 : tyOf Try.prog 41 = some ⟨1, 8, [.nilFunc], .fn⟩ := by kernel_rfl -- func(api.Schema,%20int)%20bool
theorem t42 : tyOf Try.prog 42 = some ⟨1, 24, [.slice none 0 0], .slice 31⟩ := by kernel_rfl -- []api.Program
theorem t43 : tyOf Try.prog 43 = some ⟨1, 8, [.nilFunc], .fn⟩ := by kernel_rfl -- func(api.Program,%20api.Program)%20bool
theorem t44 : tyOf Try.prog 44 = some ⟨1, 24, [.slice none 0 0], .slice 28⟩ := by kernel_rfl -- [][]api.Instr
theorem t45 : tyOf Try.prog 45 = some ⟨1, 24, [.slice none 0 0], .slice 29⟩ := by kernel_rfl -- [][]int
theorem t46 : tyOf Try.prog 46 = some ⟨1, 8, [.nilFunc], .fn⟩ := by kernel_rfl -- func(api.Schema)%20bool
theorem t47 : tyOf Try.prog 47 = some ⟨1, 24, [.slice none 0 0], .slice 53⟩ := by kernel_rfl -- []api.Layout
theorem t49 : tyOf Try.prog 49 = some ⟨1, 8, [.nilFunc], .fn⟩ := by kernel_rfl -- func(api.Schema)%20([]api.Layout,%20api.Errno)
theorem t50 : tyOf Try.prog 50 = some ⟨1, 8, [.nilFunc], .fn⟩ := by kernel_rfl -- func([]api.Layout,%20[]api.Layout)%20bool
theorem t51 : tyOf Try.prog 51 = some ⟨1, 24, [.slice none 0 0], .slice 55⟩ := by kernel_rfl -- []api.Slot
theorem t52 : tyOf Try.prog 52 = some ⟨2, 32, [.int .i64 0, .slice none 0 0], .strct [(0, 3), (1, 51)] true⟩ := by kernel_rfl -- struct%20{%20Size%20int;%20Slots%20[]api.Slot%20}
theorem t53 : tyOf Try.prog 53 = some ⟨2, 32, [.int .i64 0, .slice none 0 0], .strct [(0, 3), (1, 51)] true⟩ := by kernel_rfl -- api.Layout
theorem t54 : tyOf Try.prog 54 = some ⟨3, 24, [.int .i64 0, .bool false, .int .i64 0], .strct [(0, 3), (1, 4), (2, 3)] true⟩ := by kernel_rfl -- struct%20{%20At%20int;%20Variable%20bool;%20Size%20int%20}
theorem t55 : tyOf Try.prog 55 = some ⟨3, 24, [.int .i64 0, .bool false, .int .i64 0], .strct [(0, 3), (1, 4), (2, 3)] true⟩ := by kernel_rfl -- api.Slot
theorem t56 : tyOf Try.prog 56 = some ⟨1, 24, [.slice none 0 0], .slice 51⟩ := by kernel_rfl -- [][]api.Slot
theorem t57 : tyOf Try.prog 57 = some ⟨1, 8, [.nilFunc], .fn⟩ := by kernel_rfl -- func()%20api.Schema
theorem t58 : tyOf Try.prog 58 = some ⟨1, 24, [.slice none 0 0], .slice 62⟩ := by kernel_rfl -- []api.Part
theorem t59 : tyOf Try.prog 59 = some ⟨4, 48, [.int .i64 0, .int .i64 0, .int .i64 0, .slice none 0 0], .strct [(0, 3), (1, 3), (2, 3), (3, 58)] true⟩ := by kernel_rfl -- struct%20{%20Kind%20int;%20N%20int;%20Elem%20int;%20Parts%20
theorem t60 : tyOf Try.prog 60 = some ⟨4, 48, [.int .i64 0, .int .i64 0, .int .i64 0, .slice none 0 0], .strct [(0, 3), (1, 3), (2, 3), (3, 58)] true⟩ := by kernel_rfl -- api.Type
theorem t61 : tyOf Try.prog 61 = some ⟨3, 32, [.string ByteArray.empty, .int .i64 0, .int .i64 0], .strct [(0, 9), (1, 3), (2, 3)] true⟩ := by kernel_rfl -- struct%20{%20Label%20string;%20Tag%20int;%20Type%20int%20}
theorem t62 : tyOf Try.prog 62 = some ⟨3, 32, [.string ByteArray.empty, .int .i64 0, .int .i64 0], .strct [(0, 9), (1, 3), (2, 3)] true⟩ := by kernel_rfl -- api.Part
theorem t63 : tyOf Try.prog 63 = some ⟨2, 24, [.string ByteArray.empty, .int .i64 0], .strct [(0, 9), (1, 3)] true⟩ := by kernel_rfl -- struct%20{%20Name%20string;%20Type%20int%20}
theorem t64 : tyOf Try.prog 64 = some ⟨2, 24, [.string ByteArray.empty, .int .i64 0], .strct [(0, 9), (1, 3)] true⟩ := by kernel_rfl -- api.Root
theorem t65 : tyOf Try.prog 65 = some ⟨1, 24, [.slice none 0 0], .slice 69⟩ := by kernel_rfl -- []api.Extent
theorem t67 : tyOf Try.prog 67 = some ⟨1, 8, [.nilFunc], .fn⟩ := by kernel_rfl -- func(api.Schema)%20([]api.Extent,%20api.Errno)
theorem t68 : tyOf Try.prog 68 = some ⟨4, 32, [.bool false, .int .i64 0, .int .i64 0, .int .i64 0], .strct [(0, 4), (1, 3), (2, 3), (3, 3)] true⟩ := by kernel_rfl -- struct%20{%20Fixed%20bool;%20Least%20int;%20Most%20int;%20De
theorem t69 : tyOf Try.prog 69 = some ⟨4, 32, [.bool false, .int .i64 0, .int .i64 0, .int .i64 0], .strct [(0, 4), (1, 3), (2, 3), (3, 3)] true⟩ := by kernel_rfl -- api.Extent
theorem t70 : tyOf Try.prog 70 = some ⟨1, 8, [.pointer none], .ptr 72⟩ := by kernel_rfl -- *lower.maker
theorem t71 : tyOf Try.prog 71 = some ⟨7, 152, [.slice none 0 0, .slice none 0 0, .slice none 0 0, .slice none 0 0, .bool false, .slice none 0 0, .slice none 0 0], .strct [(0, 25), (2, 65), (3, 47), (4, 31)] true⟩ := by kernel_rfl -- struct%20{%20s%20api.Schema;%20x%20[]api.Extent;%20l%20[]api
theorem t72 : tyOf Try.prog 72 = some ⟨7, 152, [.slice none 0 0, .slice none 0 0, .slice none 0 0, .slice none 0 0, .bool false, .slice none 0 0, .slice none 0 0], .strct [(0, 25), (2, 65), (3, 47), (4, 31)] true⟩ := by kernel_rfl -- lower.maker
theorem t73 : tyOf Try.prog 73 = some ⟨1, 8, [.nilFunc], .fn⟩ := by kernel_rfl -- func(int)
theorem t74 : tyOf Try.prog 74 = some ⟨1, 8, [.nilFunc], .fn⟩ := by kernel_rfl -- func(api.Type,%20int)%20bool
theorem t75 : tyOf Try.prog 75 = some ⟨1, 8, [.nilFunc], .fn⟩ := by kernel_rfl -- func([]api.Type)%20api.Fault
theorem t76 : tyOf Try.prog 76 = some ⟨1, 8, [.map none], .map 9 3⟩ := by kernel_rfl -- map[string]int
theorem t77 : tyOf Try.prog 77 = some ⟨1, 8, [.nilFunc], .fn⟩ := by kernel_rfl -- func(string)%20bool
theorem t79 : tyOf Try.prog 79 = some ⟨1, 8, [.nilFunc], .fn⟩ := by kernel_rfl -- func(int,%20[]int)%20([]int,%20api.Errno)
theorem t80 : tyOf Try.prog 80 = some ⟨1, 8, [.nilFunc], .fn⟩ := by kernel_rfl -- func([]int,%20[]int)%20bool
theorem t82 : tyOf Try.prog 82 = some ⟨1, 8, [.nilFunc], .fn⟩ := by kernel_rfl -- func(int,%20[]int,%20int)%20([]int,%20int,%20api.Errno)
theorem t83 : tyOf Try.prog 83 = some ⟨1, 8, [.nilFunc], .fn⟩ := by kernel_rfl -- func(api.Type,%20[]api.Extent)%20api.Layout
theorem t84 : tyOf Try.prog 84 = some ⟨1, 8, [.nilFunc], .fn⟩ := by kernel_rfl -- func(api.Extent,%20int)%20api.Slot
theorem t85 : tyOf Try.prog 85 = some ⟨1, 8, [.nilFunc], .fn⟩ := by kernel_rfl -- func(int,%20int)%20int
theorem t86 : tyOf Try.prog 86 = some ⟨1, 8, [.nilFunc], .fn⟩ := by kernel_rfl -- func(api.Type,%20[]api.Extent)%20api.Extent
theorem t87 : tyOf Try.prog 87 = some ⟨1, 8, [.nilFunc], .fn⟩ := by kernel_rfl -- func(int,%20int)
theorem t88 : tyOf Try.prog 88 = some ⟨1, 8, [.nilFunc], .fn⟩ := by kernel_rfl -- func(api.Type)
theorem t89 : tyOf Try.prog 89 = some ⟨1, 24, [.slice none 0 0], .slice 94⟩ := by kernel_rfl -- []lower.mark
theorem t90 : tyOf Try.prog 90 = some ⟨1, 8, [.nilFunc], .fn⟩ := by kernel_rfl -- func(int)%20[]lower.mark
theorem t91 : tyOf Try.prog 91 = some ⟨1, 8, [.nilFunc], .fn⟩ := by kernel_rfl -- func(*lower.mark,%20int,%20int)
theorem t92 : tyOf Try.prog 92 = some ⟨1, 8, [.pointer none], .ptr 94⟩ := by kernel_rfl -- *lower.mark
theorem t93 : tyOf Try.prog 93 = some ⟨2, 32, [.int .i64 0, .slice none 0 0], .strct [(0, 3), (1, 29)] true⟩ := by kernel_rfl -- struct%20{%20at%20int;%20waits%20[]int%20}
theorem t94 : tyOf Try.prog 94 = some ⟨2, 32, [.int .i64 0, .slice none 0 0], .strct [(0, 3), (1, 29)] true⟩ := by kernel_rfl -- lower.mark
theorem t95 : tyOf Try.prog 95 = some ⟨1, 8, [.nilFunc], .fn⟩ := by kernel_rfl -- func(*lower.mark)
theorem t96 : tyOf Try.prog 96 = some ⟨1, 8, [.nilFunc], .fn⟩ := by kernel_rfl -- func(api.Type,%20api.Layout)
theorem t97 : tyOf Try.prog 97 = some ⟨1, 8, [.nilFunc], .fn⟩ := by kernel_rfl -- func(int,%20int,%20int,%20int)
theorem t98 : tyOf Try.prog 98 = some ⟨1, 8, [.nilFunc], .fn⟩ := by kernel_rfl -- func(int,%20int)%20bool
theorem t99 : tyOf Try.prog 99 = some ⟨1, 8, [.nilFunc], .fn⟩ := by kernel_rfl -- func(api.Type,%20int,%20int)%20bool
theorem t100 : tyOf Try.prog 100 = some ⟨1, 8, [.nilFunc], .fn⟩ := by kernel_rfl -- func(uint8)%20bool
theorem t101 : tyOf Try.prog 101 = some ⟨1, 8, [.nilFunc], .fn⟩ := by kernel_rfl -- func(string,%20int,%20func(uint8)%20bool)%20int
theorem t102 : tyOf Try.prog 102 = some ⟨1, 8, [.nilFunc], .fn⟩ := by kernel_rfl -- func(...int)%20int
theorem t103 : tyOf Try.prog 103 = some ⟨1, 8, [.nilFunc], .fn⟩ := by kernel_rfl -- func(api.Schema)%20[]int
theorem t104 : tyOf Try.prog 104 = some ⟨1, 8, [.nilFunc], .fn⟩ := by kernel_rfl -- func(int,%20int,%20int)%20bool
theorem t105 : tyOf Try.prog 105 = some ⟨1, 8, [.nilFunc], .fn⟩ := by kernel_rfl -- func(api.Extent,%20int)%20int
theorem t106 : tyOf Try.prog 106 = some ⟨1, 8, [.nilFunc], .fn⟩ := by kernel_rfl -- func(int,%20int,%20*lower.mark)
theorem t107 : tyOf Try.prog 107 = some ⟨1, 8, [.map none], .map 3 3⟩ := by kernel_rfl -- map[int]int
theorem t108 : tyOf Try.prog 108 = some ⟨1, 8, [.nilFunc], .fn⟩ := by kernel_rfl -- func(int)%20int
theorem t109 : tyOf Try.prog 109 = some ⟨1, 8, [.int .u64 0], .int .u64⟩ := by kernel_rfl -- uint64
theorem t111 : tyOf Try.prog 111 = some ⟨1, 8, [.nilFunc], .fn⟩ := by kernel_rfl -- func(uint64,%20uint64)%20(uint64,%20uint64)
theorem t113 : tyOf Try.prog 113 = some ⟨1, 8, [.nilFunc], .fn⟩ := by kernel_rfl -- func(api.Extent)%20(int,%20int)
theorem t114 : tyOf Try.prog 114 = some ⟨1, 8, [.nilFunc], .fn⟩ := by kernel_rfl -- func(api.Type)%20api.Extent
theorem t115 : tyOf Try.prog 115 = some ⟨1, 8, [.int .u64 0], .int .u64⟩ := by kernel_rfl -- uint
theorem t116 : tyOf Try.prog 116 = some ⟨1, 8, [.nilFunc], .fn⟩ := by kernel_rfl -- func([]int)%20int
theorem t117 : tyOf Try.prog 117 = some ⟨1, 8, [.nilFunc], .fn⟩ := by kernel_rfl -- func()%20string
theorem t120 : tyOf Try.prog 120 = some ⟨0, 0, [], .arr 0 16⟩ := by kernel_rfl -- [0]*runtime.PanicNilError
theorem t121 : tyOf Try.prog 121 = some ⟨0, 0, [], .strct [(0, 120)] false⟩ := by kernel_rfl -- struct%20{%20_%20[0]*runtime.PanicNilError%20}
theorem t122 : tyOf Try.prog 122 = some ⟨0, 0, [], .strct [(0, 120)] false⟩ := by kernel_rfl -- runtime.PanicNilError
theorem t123 : tyOf Try.prog 123 = some ⟨1, 8, [.nilFunc], .fn⟩ := by kernel_rfl -- func()%20int
theorem t124 : tyOf Try.prog 124 = some ⟨1, 4, [.int .u32 0], .int .u32⟩ := by kernel_rfl -- uint32
theorem t125 : tyOf Try.prog 125 = some ⟨1, 1, [.int .u8 0], .int .u8⟩ := by kernel_rfl -- abi.TFlag
theorem t126 : tyOf Try.prog 126 = some ⟨1, 1, [.int .u8 0], .int .u8⟩ := by kernel_rfl -- abi.Kind
theorem t127 : tyOf Try.prog 127 = some ⟨1, 8, [.nilFunc], .fn⟩ := by kernel_rfl -- func(unsafe.Pointer,%20unsafe.Pointer)%20bool
theorem t128 : tyOf Try.prog 128 = some ⟨1, 8, [.pointer none], .ptr 5⟩ := by kernel_rfl -- *uint8
theorem t129 : tyOf Try.prog 129 = some ⟨1, 4, [.int .i32 0], .int .i32⟩ := by kernel_rfl -- abi.NameOff
theorem t130 : tyOf Try.prog 130 = some ⟨1, 4, [.int .i32 0], .int .i32⟩ := by kernel_rfl -- abi.TypeOff
attribute [go_sem] t1 t2 t3 t4 t5 t6 t7 t8 t9 t10 t11 t12 t15 t16 t17 t20 t21 t22 t23 t24 t25 t26 t27 t28 t29 t30 t31 t32 t34 t35 t36 t37 t38 t39 t40 t41 t42 t43 t44 t45 t46 t47 t49 t50 t51 t52 t53 t54 t55 t56 t57 t58 t59 t60 t61 t62 t63 t64 t65 t67 t68 t69 t70 t71 t72 t73 t74 t75 t76 t77 t79 t80 t82 t83 t84 t85 t86 t87 t88 t89 t90 t91 t92 t93 t94 t95 t96 t97 t98 t99 t100 t101 t102 t103 t104 t105 t106 t107 t108 t109 t111 t113 t114 t115 t116 t117 t120 t121 t122 t123 t124 t125 t126 t127 t128 t129 t130
end Go.Proofs.Ytljfgohecmhchaa
end
section
namespace Go.Proofs.Ytljfgohecmhchaa
open Go.RowKit
/-! Lists of numbers as abstract values. -/
def v8 (zs : List Int) : List (List AV) := zs.map fun z => [.v (.int .i64 z)]
theorem v8_nil : v8 [] = [] := rfl
theorem v8_len (zs : List Int) : (v8 zs).length = zs.length := by simp [v8]
theorem v8_get {zs : List Int} {k : Nat} (h : k < zs.length) : (v8 zs)[k]? = some [.v (.int .i64 zs[k])] := by simp [v8, h]
theorem v8_app (zs : List Int) (z : Int) : v8 zs ++ [[.v (.int .i64 z)]] = v8 (zs ++ [z]) := by simp [v8]
theorem v8_take (zs : List Int) (n : Nat) : (v8 zs).take n = v8 (zs.take n) := by simp [v8]
theorem wrap_i64 {n : Int} (h : -9223372036854775808 ≤ n ∧ n ≤ 9223372036854775807) : IntKind.i64.wrap n = n := IntWalk.i64_in _ (by omega)
theorem take_len {α : Type} {l : List α} {k : Nat} (h : l.length ≤ k) : l.take k = l := List.take_of_length_le h
end Go.Proofs.Ytljfgohecmhchaa
end
section
namespace Go.Proofs.Ytljfgohecmhchaa
open Go.RowKit
/-! More of what a walk needs: nil that grows within a variable; values of which less is said. -/
instance (n : Int) : Decidable (I64 n) := by unfold I64; exact inferInstance
theorem AV.up_agg {l m : List AV} (h : AV.upL l m) : (AV.agg l).up (.agg m) := fun F β w x hx => by
  obtain ⟨g1, g2⟩ := AV.upL_get h
  cases hx with
  | s h => cases h
  | agg h1 h2 h3 =>
    refine .agg (h1.trans g1) h2 fun i c u hc hu => ?_
    obtain ⟨a, ha, hu'⟩ := g2 i c hc
    exact hu' _ _ _ _ (h3 i a u ha hu)
theorem AV.up_cons' {a b : AV} {l m : List AV} (h : a.up b) (h' : AV.upL l m) : AV.upL (a :: l) (b :: m) := ⟨h, h'⟩
theorem AV.upL_rfl : ∀ l : List AV, AV.upL l l
  | [] => trivial
  | a :: l => ⟨AV.up_rfl a, AV.upL_rfl l⟩
theorem AV.up_trans {a b c : AV} (h : a.up b) (h' : b.up c) : a.up c := fun F β w x hx => h' F β w x (h F β w x hx)
mutual
/-- the same, but for nil where an empty list is read -/
inductive Up : AV → AV → Prop
  | rfl (a : AV) : Up a a
  | nil (k : Nat) : Up (.v (.slice none 0 0)) (.lst k [])
  | agg {l m : List AV} : UpL l m → Up (.agg l) (.agg m)
  | tup {l m : List AV} : UpL l m → Up (.tup l) (.tup m)
  | lst {k : Nat} {xs ys : List (List AV)} : UpLL xs ys → Up (.lst k xs) (.lst k ys)
  | lsx {k : Nat} {xs ys zs : List (List AV)} : UpLL xs ys → Up (.lsx k xs zs) (.lst k ys)
inductive UpL : List AV → List AV → Prop
  | nil : UpL [] []
  | cons {a b : AV} {l m : List AV} : Up a b → UpL l m → UpL (a :: l) (b :: m)
inductive UpLL : List (List AV) → List (List AV) → Prop
  | nil : UpLL [] []
  | cons {a b : List AV} {l m : List (List AV)} : UpL a b → UpLL l m → UpLL (a :: l) (b :: m)
end
section
variable {F : Nat → Prop} {w : World}
mutual
theorem Up.svr : ∀ {a b : AV}, Up a b → ∀ {x : Value}, SVR F w a x → SVR F w b x
  | _, _, .rfl _, _, h => h
  | _, _, .nil k, x, h => by
    have := AV.up_nil k F (fun _ => none) w x (.s h)
    cases this with
    | s h => exact h
  | _, _, .agg _, _, h => by cases h
  | _, _, .tup _, _, h => by cases h
  | _, _, .lst hu, _, h => by
    cases h with
    | lst g h1 h2 h3 h4 h5 h6 h7 =>
      have hl := UpLL.svr hu
      refine .lst g (h1.trans hl.1) h2 h3 (fun cs hcs => ?_) h5 h6 fun i j cs u hc hu => ?_
      · obtain ⟨i, hi⟩ := List.getElem?_of_mem hcs
        obtain ⟨cs', h8, h9, _⟩ := hl.2 i cs hi
        rw [← h9]; exact h4 cs' (List.mem_of_getElem? h8)
      · obtain ⟨cs', h8, _, h10⟩ := hl.2 i cs hc
        obtain ⟨u', h11, h12⟩ := h10 j u hu
        exact h12 _ (h7 i j cs' u' h8 h11)
  | _, _, .lsx hu, _, h => by
    replace h := h.lsx_lst
    cases h with
    | lst g h1 h2 h3 h4 h5 h6 h7 =>
      have hl := UpLL.svr hu
      refine .lst g (h1.trans hl.1) h2 h3 (fun cs hcs => ?_) h5 h6 fun i j cs u hc hu => ?_
      · obtain ⟨i, hi⟩ := List.getElem?_of_mem hcs
        obtain ⟨cs', h8, h9, _⟩ := hl.2 i cs hi
        rw [← h9]; exact h4 cs' (List.mem_of_getElem? h8)
      · obtain ⟨cs', h8, _, h10⟩ := hl.2 i cs hc
        obtain ⟨u', h11, h12⟩ := h10 j u hu
        exact h12 _ (h7 i j cs' u' h8 h11)
theorem UpL.svr : ∀ {l m : List AV}, UpL l m → l.length = m.length ∧ ∀ (j : Nat) (u : AV), m[j]? = some u → ∃ u', l[j]? = some u' ∧ ∀ x, SVR F w u' x → SVR F w u x
  | _, _, .nil => ⟨Eq.refl _, fun j u h => by simp at h⟩
  | _, _, .cons h hl => by
    have h1 := fun x => Up.svr h (x := x)
    have h2 := UpL.svr hl
    refine ⟨by simp [h2.1], fun j u hu => ?_⟩
    cases j with
    | zero => simp only [List.getElem?_cons_zero, Option.some.injEq] at hu; subst hu; exact ⟨_, by simp, fun x hx => h1 x hx⟩
    | succ j => exact h2.2 j u (by simpa using hu)
theorem UpLL.svr : ∀ {l m : List (List AV)}, UpLL l m → l.length = m.length ∧ ∀ (i : Nat) (cs : List AV), m[i]? = some cs → ∃ cs', l[i]? = some cs' ∧ cs'.length = cs.length ∧ ∀ (j : Nat) (u : AV), cs[j]? = some u → ∃ u', cs'[j]? = some u' ∧ ∀ x, SVR F w u' x → SVR F w u x
  | _, _, .nil => ⟨Eq.refl _, fun j u h => by simp at h⟩
  | _, _, .cons h hl => by
    have h1 := UpL.svr h
    have h2 := UpLL.svr hl
    refine ⟨by simp [h2.1], fun j u hu => ?_⟩
    cases j with
    | zero => simp only [List.getElem?_cons_zero, Option.some.injEq] at hu; subst hu; exact ⟨_, by simp, h1.1, h1.2⟩
    | succ j => exact h2.2 j u (by simpa using hu)
end
end
mutual
theorem Up.up : ∀ {a b : AV}, Up a b → a.up b
  | _, _, .rfl a => AV.up_rfl a
  | _, _, .nil k => AV.up_nil k
  | _, _, .agg h => AV.up_agg (UpL.up h)
  | _, _, .tup h => AV.up_tup (UpL.up h)
  | _, _, .lst h => fun F β w x hx => by
    cases hx with
    | s hx => exact .s (Up.svr (.lst h) hx)
  | _, _, .lsx h => fun F β w x hx => by
    cases hx with
    | s hx => exact .s (Up.svr (.lsx h) hx)
theorem UpL.up : ∀ {l m : List AV}, UpL l m → AV.upL l m
  | _, _, .nil => trivial
  | _, _, .cons h hl => ⟨Up.up h, UpL.up hl⟩
end
theorem PCall.args {P : Program} {f : Nat} {as' bs : List AV} {R : AV → Prop} (hu : UpL as' bs) (h : PCall P f bs R) : PCall P f as' R :=
  ⟨h.1, fun w F vs h1 h2 h3 => h.2 w F vs h1 (by
    have := (AV.upL_get hu.up).1
    omega) fun i x v hx hv => by
    obtain ⟨a, ha, hau⟩ := (AV.upL_get hu.up).2 i x hx
    exact hau _ _ _ _ (h3 i a v ha hv)⟩
section
variable {P : Program} {T : Nat → Option TyD} {E : Env} {s s' : AState} {n : Nat} {Q : Exit → AState → Prop}
/-- nil within a variable, as an empty row of an object that has no block yet -/
def AState.nilvar (s : AState) (o j ty k d : Nat) (cs : List AV) : AState := { fr := (s.drop d).fr, ob := (o, .var ((AV.kill.killL d cs).set j (.ref ty k d 0 0))) :: (d, .row ty k []) :: (s.drop d).ob }
theorem aw_nilvar {c : Code} (o j ty k d : Nat) {cs : List AV} (hd : ownN d) (hne : o ≠ d) (ho : lk s.ob o = some (.var cs)) (hj : cs[j]? = some (.v (.slice none 0 0))) (h : AWp P E n c Q (s.nilvar o j ty k d cs)) : AWp P E n c Q s := fun a w ⟨hn, hdf, β, hs⟩ => by
  refine h a w ⟨hn, hdf, upd β d none, ?_⟩
  have h1 := hs.turn (β' := upd β d none) (w' := w) d hd (fun e he => upd_other β _ he) (fun b hb => by rw [upd_same] at hb; cases hb) (Keeps.refl _ _)
  have h2 := h1.add d (.row ty k []) ⟨fun cs h => (by cases h), .inl rfl⟩
  refine h2.add o _ ?_
  have h3 := h1.ob o (.var (AV.kill.killL d cs)) (by rw [lk_drop_ob, bif_ne hne, ho]; rfl)
  obtain ⟨b, arr, t, g1, g2, g3, g4⟩ := h3
  refine ⟨b, arr, t, g1, g2, by simpa using g3, fun i u hu => ?_⟩
  by_cases hij : j = i
  · subst hij
    have hlt : j < (AV.kill.killL d cs).length := by
      rw [AV.killL_eq, List.length_map]
      rcases Nat.lt_or_ge j cs.length with h | h
      · exact h
      · rw [List.getElem?_eq_none h] at hj; cases hj
    rw [List.getElem?_set_self hlt] at hu
    injection hu with hu
    subst hu
    obtain ⟨x, hx, hr, ho⟩ := g4 j (.v (.slice none 0 0)) (by rw [AV.killL_eq, List.getElem?_map, hj]; rfl)
    refine ⟨x, hx, ?_, ho⟩
    cases hr with
    | s h =>
    cases h with
    | v h => exact .nil
  · rw [List.getElem?_set_ne hij] at hu
    exact g4 i u hu
end
end Go.Proofs.Ytljfgohecmhchaa
end
section
namespace Go.Proofs.Ytljfgohecmhchaa
open Go.RowKit
section
variable {P : Program} {E : Env} {s : AState} {n : Nat} {ops : Array Oper} {Q : Exit → AState → Prop} {D : Dr} {rest : List Oper} {o : Oper}
/-- 'go_callG' of the call whose answer has this name -/
theorem go_callGd (d : Nat) (_ : o.dst = some d) (hi bk : List (Nat × Nat)) (K V : List Nat) {f : Nat} {as' : List AV} {p : Prop} {ob ob1 : List (Nat × AObj)} {r : AV} (h : callG n ops s o hi = some (f, as', p)) (hp : p) (hk : handOK hi bk K V = true)
    (hD : hi.all (fun p => D.W p.1) = true) (hds : D.ds o = true ∨ hi = []) (hob : obIn s hi hi = ob) (hc : GCall P f as' ob r ob1) (hm : AV.allIn.allInL hi (o.op.operands.toList.map s.ev) = true ∨ (r.nm = true ∧ obNm ob1))
    (hr : AListD P E n ops D rest Q ((s.back K V bk ob1).put o.dst true (r.ren bk))) : AListR P E n ops D (o :: rest) Q s := go_callG hi bk K V h hp hk hD hds hob hc hm hr
end
end Go.Proofs.Ytljfgohecmhchaa
end
section
namespace Go.Proofs.Ytljfgohecmhchaa
open Go.RowKit
section
variable {P : Program} {T : Nat → Option TyD} {E : Env} {s s' : AState} {tm : Array Value} {w : World} {β : Nat → Option Nat} {F F' : Nat → Prop} {n : Nat} {Q : Exit → AState → Prop}
theorem aw_frz {c : Code} (d : Nat) {t k : Nat} {xs : List (List AV)} (ho : lk s.ob d = some (.row t k xs)) (hd : d < 10000) (h : AWp P E n c Q (s.frz d t k xs)) : AWp P E n c Q s := fun a w ⟨hn, hdf, β, hs⟩ =>
  h a w ⟨hn, hdf, upd β d none, hs.frz (.inl hd) ho⟩
theorem aw_say {c : Code} (t : Nat) {x : AV} (y : AV) (ht : lk s.fr t = some (true, x)) (hu : x.up y) (h : AWp P E n c Q (s.say t y)) : AWp P E n c Q s := fun a w ⟨hn, hdf, β, hs⟩ => h a w ⟨hn, hdf, β, hs.say ht hu⟩
end
end Go.Proofs.Ytljfgohecmhchaa
end
section
namespace Go.Proofs.Ytljfgohecmhchaa
open Go.RowKit
set_option maxRecDepth 100000
set_option maxHeartbeats 1000000
abbrev vU8 (c : Int) : AV := .v (.int .u8 c)
abbrev vB (b : Bool) : AV := .v (.bool b)
abbrev vI (n : Int) : AV := .v (.int .i64 n)
def isLetter (c : Int) : Bool := decide (97 ≤ c) && decide (c ≤ 122)
def isDigit (c : Int) : Bool := decide (48 ≤ c) && decide (c ≤ 57)
def goesOn (c : Int) : Bool := isLetter c || (isDigit c || decide (c = 95))
theorem letter_any (c : Int) : PCall Try.prog 43 [vU8 c] (fun r => r = vB (isLetter c)) := by
  refine go_fn (tyOf_ok _) Try.func43 rfl rfl (by rw [Try.results43]) Try.ntmps43 rfl fun E => ?_
  (repeat' (first
    | exact trivial
    | (with_reducible first | refine awA ?_ | refine awB ?_ | refine awC ?_ | refine awD ?_ | refine awE ?_ | refine awF ?_ | refine awG ?_ | refine awH ?_ | refine awI ?_ | refine awJ ?_ | refine awK ?_ | refine awL ?_ | refine awM (by decide) ?_)
    | ((with_reducible first | refine awN (tyOf_ok _) [] ?_ | refine awO (tyOf_ok _) [] ?_ | refine awP (tyOf_ok _) [] ?_ | refine awQ ?_ | refine awR ?_ | refine awS ?_); intro r hr; simp only [go_sem, Nat.reduceBEq, Nat.reduceBneDiff, Nat.reduceLT, Nat.reduceLeDiff, Nat.reduceAdd, Nat.reduceMul, Nat.reduceSub, Nat.reduceEqDiff, reduceCtorEq, vU8] at hr; subst hr; (first | refine awV ?_ ?_ | refine awW ?_ ?_ | refine endK ?_ ?_ | (refine condK (fun h => ?_) (fun h => ?_) <;> (try simp only [go_sem, reduceCtorEq] at h) <;> (try (exfalso; omega))))) | fail)) <;> (try omega)
  exact rfl
theorem digit_any (c : Int) : PCall Try.prog 57 [vU8 c] (fun r => r = vB (isDigit c)) := by
  refine go_fn (tyOf_ok _) Try.func57 rfl rfl (by rw [Try.results57]) Try.ntmps57 rfl fun E => ?_
  (repeat' (first
    | exact trivial
    | (with_reducible first | refine awA ?_ | refine awB ?_ | refine awC ?_ | refine awD ?_ | refine awE ?_ | refine awF ?_ | refine awG ?_ | refine awH ?_ | refine awI ?_ | refine awJ ?_ | refine awK ?_ | refine awL ?_ | refine awM (by decide) ?_)
    | ((with_reducible first | refine awN (tyOf_ok _) [] ?_ | refine awO (tyOf_ok _) [] ?_ | refine awP (tyOf_ok _) [] ?_ | refine awQ ?_ | refine awR ?_ | refine awS ?_); intro r hr; simp only [go_sem, Nat.reduceBEq, Nat.reduceBneDiff, Nat.reduceLT, Nat.reduceLeDiff, Nat.reduceAdd, Nat.reduceMul, Nat.reduceSub, Nat.reduceEqDiff, reduceCtorEq, vU8] at hr; subst hr; (first | refine awV ?_ ?_ | refine awW ?_ ?_ | refine endK ?_ ?_ | (refine condK (fun h => ?_) (fun h => ?_) <;> (try simp only [go_sem, reduceCtorEq] at h) <;> (try (exfalso; omega))))) | fail)) <;> (try omega)
  exact rfl
theorem further_any (c : Int) : PCall Try.prog 45 [vU8 c] (fun r => r = vB (goesOn c)) := by
  refine go_fn (tyOf_ok _) Try.func45 rfl rfl (by rw [Try.results45]) Try.ntmps45 rfl fun E => ?_
  (repeat' (first
    | exact trivial
    | (with_reducible first | refine awA ?_ | refine awB ?_ | refine awC ?_ | refine awD ?_ | refine awE ?_ | refine awF ?_ | refine awG ?_ | refine awH ?_ | refine awI ?_ | refine awJ ?_ | refine awK ?_ | refine awL ?_ | refine awM (by decide) ?_)
    | ((with_reducible first | refine awN (tyOf_ok _) [] ?_ | refine awO (tyOf_ok _) [] ?_ | refine awP (tyOf_ok _) [] ?_ | refine awQ ?_ | refine awR ?_ | refine awS ?_); intro r hr; simp only [go_sem, Nat.reduceBEq, Nat.reduceBneDiff, Nat.reduceLT, Nat.reduceLeDiff, Nat.reduceAdd, Nat.reduceMul, Nat.reduceSub, Nat.reduceEqDiff, reduceCtorEq] at hr; subst hr; (first | refine caA (fun _ => letter_any c) rfl ?_ ?_ ?_ | refine caA (fun _ => digit_any c) rfl ?_ ?_ ?_ | refine awV ?_ ?_ | refine awW ?_ ?_ | refine endK ?_ ?_ | (refine condK (fun h => ?_) (fun h => ?_) <;> (try simp only [go_sem, reduceCtorEq] at h) <;> (try (exfalso; omega))))) | fail)) <;> (try omega)
  show AV.v (.bool ((isLetter c || isDigit c) || decide (c = 95))) = _
  rw [goesOn, Bool.or_assoc]
theorem letter5_any (c : Int) : PCall Try.prog 61 [vU8 c] (fun r => r = vB (isLetter c)) := by
  refine go_fn (tyOf_ok _) Try.func61 rfl rfl (by rw [Try.results61]) Try.ntmps61 rfl fun E => ?_
  (repeat' (first
    | exact trivial
    | (with_reducible first | refine awA ?_ | refine awB ?_ | refine awC ?_ | refine awD ?_ | refine awE ?_ | refine awF ?_ | refine awG ?_ | refine awH ?_ | refine awI ?_ | refine awJ ?_ | refine awK ?_ | refine awL ?_ | refine awM (by decide) ?_)
    | ((with_reducible first | refine awN (tyOf_ok _) [] ?_ | refine awO (tyOf_ok _) [] ?_ | refine awP (tyOf_ok _) [] ?_ | refine awQ ?_ | refine awR ?_ | refine awS ?_); intro r hr; simp only [go_sem, Nat.reduceBEq, Nat.reduceBneDiff, Nat.reduceLT, Nat.reduceLeDiff, Nat.reduceAdd, Nat.reduceMul, Nat.reduceSub, Nat.reduceEqDiff, reduceCtorEq] at hr; subst hr; (first | refine awV ?_ ?_ | refine awW ?_ ?_ | refine endK ?_ ?_ | (refine condK (fun h => ?_) (fun h => ?_) <;> (try simp only [go_sem, reduceCtorEq] at h) <;> (try (exfalso; omega))))) | fail)) <;> (try omega)
  exact rfl
theorem digit5_any (c : Int) : PCall Try.prog 68 [vU8 c] (fun r => r = vB (isDigit c)) := by
  refine go_fn (tyOf_ok _) Try.func68 rfl rfl (by rw [Try.results68]) Try.ntmps68 rfl fun E => ?_
  (repeat' (first
    | exact trivial
    | (with_reducible first | refine awA ?_ | refine awB ?_ | refine awC ?_ | refine awD ?_ | refine awE ?_ | refine awF ?_ | refine awG ?_ | refine awH ?_ | refine awI ?_ | refine awJ ?_ | refine awK ?_ | refine awL ?_ | refine awM (by decide) ?_)
    | ((with_reducible first | refine awN (tyOf_ok _) [] ?_ | refine awO (tyOf_ok _) [] ?_ | refine awP (tyOf_ok _) [] ?_ | refine awQ ?_ | refine awR ?_ | refine awS ?_); intro r hr; simp only [go_sem, Nat.reduceBEq, Nat.reduceBneDiff, Nat.reduceLT, Nat.reduceLeDiff, Nat.reduceAdd, Nat.reduceMul, Nat.reduceSub, Nat.reduceEqDiff, reduceCtorEq] at hr; subst hr; (first | refine awV ?_ ?_ | refine awW ?_ ?_ | refine endK ?_ ?_ | (refine condK (fun h => ?_) (fun h => ?_) <;> (try simp only [go_sem, reduceCtorEq] at h) <;> (try (exfalso; omega))))) | fail)) <;> (try omega)
  exact rfl
theorem goes_any (c : Int) : PCall Try.prog 63 [vU8 c] (fun r => r = vB (goesOn c)) := by
  refine go_fn (tyOf_ok _) Try.func63 rfl rfl (by rw [Try.results63]) Try.ntmps63 rfl fun E => ?_
  (repeat' (first
    | exact trivial
    | (with_reducible first | refine awA ?_ | refine awB ?_ | refine awC ?_ | refine awD ?_ | refine awE ?_ | refine awF ?_ | refine awG ?_ | refine awH ?_ | refine awI ?_ | refine awJ ?_ | refine awK ?_ | refine awL ?_ | refine awM (by decide) ?_)
    | ((with_reducible first | refine awN (tyOf_ok _) [] ?_ | refine awO (tyOf_ok _) [] ?_ | refine awP (tyOf_ok _) [] ?_ | refine awQ ?_ | refine awR ?_ | refine awS ?_); intro r hr; simp only [go_sem, Nat.reduceBEq, Nat.reduceBneDiff, Nat.reduceLT, Nat.reduceLeDiff, Nat.reduceAdd, Nat.reduceMul, Nat.reduceSub, Nat.reduceEqDiff, reduceCtorEq] at hr; subst hr; (first | refine caA (fun _ => letter5_any c) rfl ?_ ?_ ?_ | refine caA (fun _ => digit5_any c) rfl ?_ ?_ ?_ | refine awV ?_ ?_ | refine awW ?_ ?_ | refine endK ?_ ?_ | (refine condK (fun h => ?_) (fun h => ?_) <;> (try simp only [go_sem, reduceCtorEq] at h) <;> (try (exfalso; omega))))) | fail)) <;> (try omega)
  show AV.v (.bool ((isLetter c || isDigit c) || decide (c = 95))) = _
  rw [goesOn, Bool.or_assoc]
abbrev vS (s : ByteArray) : AV := .v (.string s)
def wordL : List ByteArray := [⟨#[116, 121, 112, 101]⟩, ⟨#[117, 56]⟩, ⟨#[117, 49, 54]⟩, ⟨#[117, 51, 50]⟩, ⟨#[117, 54, 52]⟩, ⟨#[98, 111, 111, 108]⟩, ⟨#[118, 97, 114, 105, 110, 116]⟩, ⟨#[118, 101, 99, 116, 111, 114]⟩, ⟨#[108, 105, 115, 116]⟩, ⟨#[111, 112, 116, 105, 111, 110]⟩, ⟨#[117, 110, 105, 111, 110]⟩, ⟨#[115, 116, 114, 117, 99, 116]⟩]
def isWord (s : ByteArray) : Bool := wordL.any fun w => decide (s = w)
theorem word_any (s : ByteArray) : PCall Try.prog 46 [vS s] (fun r => r = vB (isWord s)) := by
  refine go_fn (tyOf_ok _) Try.func46 rfl rfl (by rw [Try.results46]) Try.ntmps46 rfl fun E => ?_
  (repeat' (first
    | exact trivial
    | (with_reducible first | refine awA ?_ | refine awB ?_ | refine awC ?_ | refine awD ?_ | refine awE ?_ | refine awF ?_ | refine awG ?_ | refine awH ?_ | refine awI ?_ | refine awJ ?_ | refine awK ?_ | refine awL ?_ | refine awM (by decide) ?_)
    | ((with_reducible first | refine awN (tyOf_ok _) [] ?_ | refine awO (tyOf_ok _) [] ?_ | refine awP (tyOf_ok _) [] ?_ | refine awQ ?_ | refine awR ?_ | refine awS ?_); intro r hr; simp only [go_sem, Nat.reduceBEq, Nat.reduceBneDiff, Nat.reduceLT, Nat.reduceLeDiff, Nat.reduceAdd, Nat.reduceMul, Nat.reduceSub, Nat.reduceEqDiff, reduceCtorEq] at hr; subst hr; (first | refine awV ?_ ?_ | refine awW ?_ ?_ | refine endK ?_ ?_ | (refine condK (fun h => ?_) (fun h => ?_) <;> (try simp only [go_sem, reduceCtorEq] at h) <;> (try (exfalso; omega))))) | fail)) <;> (try omega)
  all_goals first | contradiction | (show AV.v (Value.bool _) = AV.v (Value.bool _); simp [isWord, wordL, *])
theorem word5_any (s : ByteArray) : PCall Try.prog 62 [vS s] (fun r => r = vB (isWord s)) := by
  refine go_fn (tyOf_ok _) Try.func62 rfl rfl (by rw [Try.results62]) Try.ntmps62 rfl fun E => ?_
  (repeat' (first
    | exact trivial
    | (with_reducible first | refine awA ?_ | refine awB ?_ | refine awC ?_ | refine awD ?_ | refine awE ?_ | refine awF ?_ | refine awG ?_ | refine awH ?_ | refine awI ?_ | refine awJ ?_ | refine awK ?_ | refine awL ?_ | refine awM (by decide) ?_)
    | ((with_reducible first | refine awN (tyOf_ok _) [] ?_ | refine awO (tyOf_ok _) [] ?_ | refine awP (tyOf_ok _) [] ?_ | refine awQ ?_ | refine awR ?_ | refine awS ?_); intro r hr; simp only [go_sem, Nat.reduceBEq, Nat.reduceBneDiff, Nat.reduceLT, Nat.reduceLeDiff, Nat.reduceAdd, Nat.reduceMul, Nat.reduceSub, Nat.reduceEqDiff, reduceCtorEq] at hr; subst hr; (first | refine awV ?_ ?_ | refine awW ?_ ?_ | refine endK ?_ ?_ | (refine condK (fun h => ?_) (fun h => ?_) <;> (try simp only [go_sem, reduceCtorEq] at h) <;> (try (exfalso; omega))))) | fail)) <;> (try omega)
  all_goals first | contradiction | (show AV.v (Value.bool _) = AV.v (Value.bool _); simp [isWord, wordL, *])
def bytes (s : ByteArray) : List Int := s.data.toList.map fun b => (b.toNat : Int)
theorem bytes_len (s : ByteArray) : (bytes s).length = s.size := by simp [bytes]
theorem bytes_at (s : ByteArray) {k : Nat} (h : k < s.size) : (bytes s)[k]'(by rw [bytes_len]; exact h) = bAt s k := by
  have : k < s.data.size := h
  simp [bytes, bAt, this, Array.getElem?_eq_getElem this]
def runTo (s : ByteArray) (k : Nat) : Nat := k + (((bytes s).drop k).takeWhile goesOn).length
theorem runTo_step {s : ByteArray} {k : Nat} (h : k < s.size) : runTo s k = if goesOn (bAt s k) then runTo s (k + 1) else k := by
  unfold runTo
  have h' : k < (bytes s).length := by rw [bytes_len]; exact h
  rw [List.drop_eq_getElem_cons h', bytes_at s h, List.takeWhile_cons]
  split <;> simp <;> omega
theorem runTo_end {s : ByteArray} {k : Nat} (h : s.size ≤ k) : runTo s k = k := by
  unfold runTo
  rw [List.drop_of_length_le (by rw [bytes_len]; exact h)]; rfl
theorem run_any (s : ByteArray) (hs : s.size ≤ 1000000000) : PCall Try.prog 44 [vS s, vI 0, .v (.func (.func 45) #[] #[])] (fun r => r = vI (runTo s 0)) := by
  refine go_fn (tyOf_ok _) Try.func44 rfl rfl (by rw [Try.results44]) Try.ntmps44 rfl fun E => ?_
  (repeat' (first
    | exact trivial
    | (with_reducible first | refine awA ?_ | refine awB ?_ | refine awC ?_ | refine awD ?_ | refine awE ?_ | refine awF ?_ | refine awG ?_ | refine awH ?_ | refine awI ?_ | refine awJ ?_ | refine awK ?_ | refine awL ?_ | refine awM (by decide) ?_)
    | ((with_reducible first | refine awN (tyOf_ok _) [] ?_ | refine awO (tyOf_ok _) [] ?_ | refine awP (tyOf_ok _) [] ?_ | refine awQ ?_ | refine awR ?_ | refine awS ?_); intro r hr; simp only [go_sem, Nat.reduceBEq, Nat.reduceBneDiff, Nat.reduceLT, Nat.reduceLeDiff, Nat.reduceAdd, Nat.reduceMul, Nat.reduceSub, Nat.reduceEqDiff, reduceCtorEq] at hr; subst hr; (first | refine awV ?_ ?_ | refine awW ?_ ?_ | refine endK ?_ ?_ | (refine condK (fun h => ?_) (fun h => ?_) <;> (try simp only [go_sem, reduceCtorEq] at h) <;> (try (exfalso; omega))))) | fail)) <;> (try omega)
  refine go_loop [0, 1, 2] [] (fun k : Nat => ⟨[(0, true, vS s), (1, true, vI k), (2, true, .v (.func (.func 45) #[] #[]))], []⟩) (fun k => k ≤ s.size ∧ runTo s 0 = runTo s k) (fun k => s.size - k) 0 (by simp only [go_sem, Nat.reduceBEq, Nat.reduceBneDiff, Nat.reduceLT, Nat.reduceLeDiff, Nat.reduceAdd, Nat.reduceMul, Nat.reduceSub, Nat.reduceEqDiff, reduceCtorEq]; exact rfl) ⟨Nat.zero_le _, rfl⟩ ?_
  intro k ⟨hk, he⟩
  have hw := wrap_i64 (n := (k : Int) + 1) (by omega)
  by_cases hlt : k < s.size
  · have e1 : ((k : Int) < s.size) = True := eq_true (by omega)
    rw [runTo_step hlt] at he
    (repeat' (first
    | exact trivial
    | (with_reducible first | refine awA ?_ | refine awB ?_ | refine awC ?_ | refine awD ?_ | refine awE ?_ | refine awF ?_ | refine awG ?_ | refine awH ?_ | refine awI ?_ | refine awJ ?_ | refine awK ?_ | refine awL ?_ | refine awM (by decide) ?_)
    | ((with_reducible first | refine awN (tyOf_ok _) [] ?_ | refine awO (tyOf_ok _) [] ?_ | refine awP (tyOf_ok _) [] ?_ | refine awQ ?_ | refine awR ?_ | refine awS ?_); intro r hr; simp only [go_sem, Nat.reduceBEq, Nat.reduceBneDiff, Nat.reduceLT, Nat.reduceLeDiff, Nat.reduceAdd, Nat.reduceMul, Nat.reduceSub, Nat.reduceEqDiff, reduceCtorEq, hw, e1] at hr; subst hr; (first | refine caA (fun _ => further_any (bAt s k)) rfl ?_ ?_ ?_ | refine awV ?_ ?_ | refine awW ?_ ?_ | refine endK ?_ ?_ | (refine condK (fun h => ?_) (fun h => ?_) <;> (try simp only [go_sem, reduceCtorEq] at h) <;> (try (exfalso; omega))))) | fail)) <;> (try omega)
    · simp only [h, if_true] at he
      exact ⟨k + 1, by simp only [go_sem, Nat.reduceBEq, Nat.reduceBneDiff, Nat.reduceLT, Nat.reduceLeDiff, Nat.reduceAdd, Nat.reduceMul, Nat.reduceSub, Nat.reduceEqDiff, reduceCtorEq]; exact rfl, ⟨by omega, he⟩, by omega⟩
    · simp only [h, Bool.false_eq_true, if_false] at he
      rw [he]; exact rfl
  · have e1 : ((k : Int) < s.size) = False := eq_false (by omega)
    rw [runTo_end (k := k) (by omega)] at he
    (repeat' (first
    | exact trivial
    | (with_reducible first | refine awA ?_ | refine awB ?_ | refine awC ?_ | refine awD ?_ | refine awE ?_ | refine awF ?_ | refine awG ?_ | refine awH ?_ | refine awI ?_ | refine awJ ?_ | refine awK ?_ | refine awL ?_ | refine awM (by decide) ?_)
    | ((with_reducible first | refine awN (tyOf_ok _) [] ?_ | refine awO (tyOf_ok _) [] ?_ | refine awP (tyOf_ok _) [] ?_ | refine awQ ?_ | refine awR ?_ | refine awS ?_); intro r hr; simp only [go_sem, Nat.reduceBEq, Nat.reduceBneDiff, Nat.reduceLT, Nat.reduceLeDiff, Nat.reduceAdd, Nat.reduceMul, Nat.reduceSub, Nat.reduceEqDiff, reduceCtorEq, hw, e1] at hr; subst hr; (first | refine caA (fun _ => further_any (bAt s k)) rfl ?_ ?_ ?_ | refine awV ?_ ?_ | refine awW ?_ ?_ | refine endK ?_ ?_ | (refine condK (fun h => ?_) (fun h => ?_) <;> (try simp only [go_sem, reduceCtorEq] at h) <;> (try (exfalso; omega))))) | fail)) <;> (try omega)
    rw [he]; exact rfl
def isName (s : ByteArray) : Bool := decide (s ≠ ⟨#[]⟩) && decide (s.size ≤ 32) && isLetter (bAt s 0) && (bytes s).all goesOn && !isWord s
theorem tw_len {α : Type} (p : α → Bool) : ∀ l : List α, (l.takeWhile p).length = l.length ↔ l.all p = true
  | [] => by simp
  | a :: l => by
    rw [List.takeWhile_cons, List.all_cons]
    cases h : p a with
    | true => simp [tw_len p l]
    | false => simp
theorem name_any (s : ByteArray) : PCall Try.prog 21 [vS s] (fun r => r = vB (isName s)) := by
  refine go_fn (tyOf_ok _) Try.func21 rfl rfl (by rw [Try.results21]) Try.ntmps21 rfl fun E => ?_
  by_cases h1 : s = ⟨#[]⟩
  · have e1 : (s = ⟨#[]⟩) = True := eq_true h1
    (repeat' (first
    | exact trivial
    | (with_reducible first | refine awA ?_ | refine awB ?_ | refine awC ?_ | refine awD ?_ | refine awE ?_ | refine awF ?_ | refine awG ?_ | refine awH ?_ | refine awI ?_ | refine awJ ?_ | refine awK ?_ | refine awL ?_ | refine awM (by decide) ?_)
    | ((with_reducible first | refine awN (tyOf_ok _) [] ?_ | refine awO (tyOf_ok _) [] ?_ | refine awP (tyOf_ok _) [] ?_ | refine awQ ?_ | refine awR ?_ | refine awS ?_); intro r hr; simp only [go_sem, Nat.reduceBEq, Nat.reduceBneDiff, Nat.reduceLT, Nat.reduceLeDiff, Nat.reduceAdd, Nat.reduceMul, Nat.reduceSub, Nat.reduceEqDiff, reduceCtorEq, e1] at hr; subst hr; (first | refine caA (fun _ => letter_any _) rfl ?_ ?_ ?_ | refine caB 44 (vI 0) ?_ ?_ ?_ | refine caA (fun _ => word_any _) rfl ?_ ?_ ?_ | refine awV ?_ ?_ | refine awW ?_ ?_ | refine endK ?_ ?_ | (refine condK (fun h => ?_) (fun h => ?_) <;> (try simp only [go_sem, reduceCtorEq] at h) <;> (try (exfalso; omega))))) | fail)) <;> (try omega)
    show AV.v (.bool false) = AV.v (.bool (isName s))
    simp [isName, h1]
  · by_cases h2 : s.size ≤ 32
    · have e2 : ((s.size : Int) ≤ 32) = True := eq_true (by omega)
      (repeat' (first
    | exact trivial
    | (with_reducible first | refine awA ?_ | refine awB ?_ | refine awC ?_ | refine awD ?_ | refine awE ?_ | refine awF ?_ | refine awG ?_ | refine awH ?_ | refine awI ?_ | refine awJ ?_ | refine awK ?_ | refine awL ?_ | refine awM (by decide) ?_)
    | ((with_reducible first | refine awN (tyOf_ok _) [] ?_ | refine awO (tyOf_ok _) [] ?_ | refine awP (tyOf_ok _) [] ?_ | refine awQ ?_ | refine awR ?_ | refine awS ?_); intro r hr; simp only [go_sem, Nat.reduceBEq, Nat.reduceBneDiff, Nat.reduceLT, Nat.reduceLeDiff, Nat.reduceAdd, Nat.reduceMul, Nat.reduceSub, Nat.reduceEqDiff, reduceCtorEq, h1, e2] at hr; subst hr; (first | refine caA (fun _ => letter_any _) rfl ?_ ?_ ?_ | refine caA (fun _ => run_any s (by omega)) rfl ?_ ?_ ?_ | refine caA (fun _ => word_any _) rfl ?_ ?_ ?_ | refine awV ?_ ?_ | refine awW ?_ ?_ | refine endK ?_ ?_ | (refine condK (fun h => ?_) (fun h => ?_) <;> (try simp only [go_sem, reduceCtorEq] at h) <;> (try (exfalso; omega))))) | fail)) <;> (try omega)
      · have : s.size ≠ 0 := fun h => h1 (ByteArray.ext (Array.eq_empty_of_size_eq_zero h))
        omega
      · have hr : (decide ((runTo s 0 : Int) = s.size)) = (bytes s).all goesOn := by
          rw [runTo, List.drop_zero, Nat.zero_add]
          rw [Bool.eq_iff_iff, decide_eq_true_eq, List.all_eq_true, ← bytes_len]
          rw [← List.all_eq_true, ← tw_len]
          omega
        show AV.v (.bool (isLetter (bAt s 0) && decide ((runTo s 0 : Int) = s.size) && !isWord s)) = AV.v (.bool (isName s))
        rw [hr, isName]
        simp [h1, h2]
    · have e2 : ((s.size : Int) ≤ 32) = False := eq_false (by omega)
      (repeat' (first
    | exact trivial
    | (with_reducible first | refine awA ?_ | refine awB ?_ | refine awC ?_ | refine awD ?_ | refine awE ?_ | refine awF ?_ | refine awG ?_ | refine awH ?_ | refine awI ?_ | refine awJ ?_ | refine awK ?_ | refine awL ?_ | refine awM (by decide) ?_)
    | ((with_reducible first | refine awN (tyOf_ok _) [] ?_ | refine awO (tyOf_ok _) [] ?_ | refine awP (tyOf_ok _) [] ?_ | refine awQ ?_ | refine awR ?_ | refine awS ?_); intro r hr; simp only [go_sem, Nat.reduceBEq, Nat.reduceBneDiff, Nat.reduceLT, Nat.reduceLeDiff, Nat.reduceAdd, Nat.reduceMul, Nat.reduceSub, Nat.reduceEqDiff, reduceCtorEq, h1, e2] at hr; subst hr; (first | refine caA (fun _ => letter_any _) rfl ?_ ?_ ?_ | refine caB 44 (vI 0) ?_ ?_ ?_ | refine caA (fun _ => word_any _) rfl ?_ ?_ ?_ | refine awV ?_ ?_ | refine awW ?_ ?_ | refine endK ?_ ?_ | (refine condK (fun h => ?_) (fun h => ?_) <;> (try simp only [go_sem, reduceCtorEq] at h) <;> (try (exfalso; omega))))) | fail)) <;> (try omega)
      show AV.v (.bool false) = AV.v (.bool (isName s))
      simp [isName, h2]
end Go.Proofs.Ytljfgohecmhchaa
end
section
namespace Go.Proofs.Ytljfgohecmhchaa
open Go.RowKit
set_option maxRecDepth 100000
set_option maxHeartbeats 1000000
theorem all_bytes (s : ByteArray) : (bytes s).all goesOn = true ↔ ∀ i, i < s.size → goesOn (bAt s i) = true := by
  rw [List.all_eq_true]
  constructor
  · intro h i hi
    rw [← bytes_at s hi]
    exact h _ (List.getElem_mem _)
  · intro h x hx
    obtain ⟨i, hi, rfl⟩ := List.getElem_of_mem hx
    have hi' : i < s.size := by rw [← bytes_len]; exact hi
    rw [bytes_at s hi']
    exact h i hi'
theorem name5_any (s : ByteArray) : PCall Try.prog 52 [vS s] (fun r => r = vB (isName s)) := by
  refine go_fn (tyOf_ok _) Try.func52 rfl rfl (by rw [Try.results52]) Try.ntmps52 rfl fun E => ?_
  by_cases h1 : s = ⟨#[]⟩
  · have e1 : (s = ⟨#[]⟩) = True := eq_true h1
    (repeat' (first
    | exact trivial
    | (with_reducible first | refine awA ?_ | refine awB ?_ | refine awC ?_ | refine awD ?_ | refine awE ?_ | refine awF ?_ | refine awG ?_ | refine awH ?_ | refine awI ?_ | refine awJ ?_ | refine awK ?_ | refine awL ?_ | refine awM (by decide) ?_)
    | ((with_reducible first | refine awN (tyOf_ok _) [] ?_ | refine awO (tyOf_ok _) [] ?_ | refine awP (tyOf_ok _) [] ?_ | refine awQ ?_ | refine awR ?_ | refine awS ?_); intro r hr; simp only [go_sem, Nat.reduceBEq, Nat.reduceBneDiff, Nat.reduceLT, Nat.reduceLeDiff, Nat.reduceAdd, Nat.reduceMul, Nat.reduceSub, Nat.reduceEqDiff, reduceCtorEq, e1] at hr; subst hr; (first | refine caA (fun _ => letter5_any _) rfl ?_ ?_ ?_ | refine caA (fun _ => word5_any _) rfl ?_ ?_ ?_ | refine awV ?_ ?_ | refine awW ?_ ?_ | refine endK ?_ ?_ | (refine condK (fun h => ?_) (fun h => ?_) <;> (try simp only [go_sem, reduceCtorEq] at h) <;> (try (exfalso; omega))))) | fail)) <;> (try omega)
    show AV.v (.bool false) = AV.v (.bool (isName s))
    simp [isName, h1]
  · by_cases h2 : s.size ≤ 32
    · have e2 : ((32 : Int) < s.size) = False := eq_false (by omega)
      (repeat' (first
    | exact trivial
    | (with_reducible first | refine awA ?_ | refine awB ?_ | refine awC ?_ | refine awD ?_ | refine awE ?_ | refine awF ?_ | refine awG ?_ | refine awH ?_ | refine awI ?_ | refine awJ ?_ | refine awK ?_ | refine awL ?_ | refine awM (by decide) ?_)
    | ((with_reducible first | refine awN (tyOf_ok _) [] ?_ | refine awO (tyOf_ok _) [] ?_ | refine awP (tyOf_ok _) [] ?_ | refine awQ ?_ | refine awR ?_ | refine awS ?_); intro r hr; simp only [go_sem, Nat.reduceBEq, Nat.reduceBneDiff, Nat.reduceLT, Nat.reduceLeDiff, Nat.reduceAdd, Nat.reduceMul, Nat.reduceSub, Nat.reduceEqDiff, reduceCtorEq, h1, e2] at hr; subst hr; (first | refine caA (fun _ => letter5_any _) rfl ?_ ?_ ?_ | refine caA (fun _ => word5_any _) rfl ?_ ?_ ?_ | refine awV ?_ ?_ | refine awW ?_ ?_ | refine endK ?_ ?_ | (refine condK (fun h => ?_) (fun h => ?_) <;> (try simp only [go_sem, reduceCtorEq] at h) <;> (try (exfalso; omega))))) | fail)) <;> (try omega)
      · have : s.size ≠ 0 := fun h => h1 (ByteArray.ext (Array.eq_empty_of_size_eq_zero h))
        omega
      · show AV.v (.bool false) = AV.v (.bool (isName s))
        rw [isName]
        rcases h with h | h
        · rw [show isLetter (bAt s 0) = false from h]; simp
        · rw [h]; simp
      · obtain ⟨hl, hw⟩ := h
        refine go_loop [0, 3] [] (fun k : Nat => ⟨[(0, true, vS s), (3, true, vI k)], []⟩) (fun k => k ≤ s.size ∧ ∀ i, i < k → goesOn (bAt s i) = true) (fun k => s.size - k) 0 (by simp only [go_sem, Nat.reduceBEq, Nat.reduceBneDiff, Nat.reduceLT, Nat.reduceLeDiff, Nat.reduceAdd, Nat.reduceMul, Nat.reduceSub, Nat.reduceEqDiff, reduceCtorEq]; exact rfl) ⟨Nat.zero_le _, fun _ h => by omega⟩ ?_
        intro k ⟨hk, hg⟩
        have hw1 := wrap_i64 (n := (k : Int) + 1) (by omega)
        by_cases hlt : k < s.size
        · have e1 : ((k : Int) < s.size) = True := eq_true (by omega)
          (repeat' (first
    | exact trivial
    | (with_reducible first | refine awA ?_ | refine awB ?_ | refine awC ?_ | refine awD ?_ | refine awE ?_ | refine awF ?_ | refine awG ?_ | refine awH ?_ | refine awI ?_ | refine awJ ?_ | refine awK ?_ | refine awL ?_ | refine awM (by decide) ?_)
    | ((with_reducible first | refine awN (tyOf_ok _) [] ?_ | refine awO (tyOf_ok _) [] ?_ | refine awP (tyOf_ok _) [] ?_ | refine awQ ?_ | refine awR ?_ | refine awS ?_); intro r hr; simp only [go_sem, Nat.reduceBEq, Nat.reduceBneDiff, Nat.reduceLT, Nat.reduceLeDiff, Nat.reduceAdd, Nat.reduceMul, Nat.reduceSub, Nat.reduceEqDiff, reduceCtorEq, hw1, e1] at hr; subst hr; (first | refine caA (fun _ => goes_any (bAt s k)) rfl ?_ ?_ ?_ | refine awV ?_ ?_ | refine awW ?_ ?_ | refine endK ?_ ?_ | (refine condK (fun h => ?_) (fun h => ?_) <;> (try simp only [go_sem, reduceCtorEq] at h) <;> (try (exfalso; omega))))) | fail)) <;> (try omega)
          · show AV.v (.bool false) = AV.v (.bool (isName s))
            have : (bytes s).all goesOn = false := by
              rw [Bool.eq_false_iff]
              intro hh
              have := (all_bytes s).1 hh k hlt
              rw [this] at h; cases h
            rw [isName, this]; simp
          · refine ⟨k + 1, by simp only [go_sem, Nat.reduceBEq, Nat.reduceBneDiff, Nat.reduceLT, Nat.reduceLeDiff, Nat.reduceAdd, Nat.reduceMul, Nat.reduceSub, Nat.reduceEqDiff, reduceCtorEq]; exact rfl, ⟨by omega, fun i hi => ?_⟩, by omega⟩
            rcases Nat.lt_or_ge i k with h' | h'
            · exact hg i h'
            · have : i = k := by omega
              subst this; exact h
        · have e1 : ((k : Int) < s.size) = False := eq_false (by omega)
          (repeat' (first
    | exact trivial
    | (with_reducible first | refine awA ?_ | refine awB ?_ | refine awC ?_ | refine awD ?_ | refine awE ?_ | refine awF ?_ | refine awG ?_ | refine awH ?_ | refine awI ?_ | refine awJ ?_ | refine awK ?_ | refine awL ?_ | refine awM (by decide) ?_)
    | ((with_reducible first | refine awN (tyOf_ok _) [] ?_ | refine awO (tyOf_ok _) [] ?_ | refine awP (tyOf_ok _) [] ?_ | refine awQ ?_ | refine awR ?_ | refine awS ?_); intro r hr; simp only [go_sem, Nat.reduceBEq, Nat.reduceBneDiff, Nat.reduceLT, Nat.reduceLeDiff, Nat.reduceAdd, Nat.reduceMul, Nat.reduceSub, Nat.reduceEqDiff, reduceCtorEq, hw1, e1] at hr; subst hr; (first | refine caA (fun _ => goes_any (bAt s k)) rfl ?_ ?_ ?_ | refine awV ?_ ?_ | refine awW ?_ ?_ | refine endK ?_ ?_ | (refine condK (fun h => ?_) (fun h => ?_) <;> (try simp only [go_sem, reduceCtorEq] at h) <;> (try (exfalso; omega))))) | fail)) <;> (try omega)
          show AV.v (.bool true) = AV.v (.bool (isName s))
          have : (bytes s).all goesOn = true := (all_bytes s).2 fun i hi => hg i (by omega)
          rw [isName, this, hw, show isLetter (bAt s 0) = true from hl]
          simp [h1, h2]
    · have e2 : ((32 : Int) < s.size) = True := eq_true (by omega)
      (repeat' (first
    | exact trivial
    | (with_reducible first | refine awA ?_ | refine awB ?_ | refine awC ?_ | refine awD ?_ | refine awE ?_ | refine awF ?_ | refine awG ?_ | refine awH ?_ | refine awI ?_ | refine awJ ?_ | refine awK ?_ | refine awL ?_ | refine awM (by decide) ?_)
    | ((with_reducible first | refine awN (tyOf_ok _) [] ?_ | refine awO (tyOf_ok _) [] ?_ | refine awP (tyOf_ok _) [] ?_ | refine awQ ?_ | refine awR ?_ | refine awS ?_); intro r hr; simp only [go_sem, Nat.reduceBEq, Nat.reduceBneDiff, Nat.reduceLT, Nat.reduceLeDiff, Nat.reduceAdd, Nat.reduceMul, Nat.reduceSub, Nat.reduceEqDiff, reduceCtorEq, h1, e2] at hr; subst hr; (first | refine caA (fun _ => letter5_any _) rfl ?_ ?_ ?_ | refine caA (fun _ => word5_any _) rfl ?_ ?_ ?_ | refine awV ?_ ?_ | refine awW ?_ ?_ | refine endK ?_ ?_ | (refine condK (fun h => ?_) (fun h => ?_) <;> (try simp only [go_sem, reduceCtorEq] at h) <;> (try (exfalso; omega))))) | fail)) <;> (try omega)
      show AV.v (.bool false) = AV.v (.bool (isName s))
      simp [isName, h2]
end Go.Proofs.Ytljfgohecmhchaa
end
section
namespace Go.Proofs.Ytljfgohecmhchaa
open Go.RowKit
set_option maxRecDepth 100000
set_option maxHeartbeats 1000000
structure PartM where
  label : ByteArray
  tag : Int
  ty : Int
structure TypeM where
  kind : Int
  n : Int
  elem : Int
  parts : List PartM
structure RootM where
  name : ByteArray
  ty : Int
def encP (p : PartM) : List AV := [vS p.label, vI p.tag, vI p.ty]
def encPs (l : List PartM) : List (List AV) := l.map encP
theorem encPs_len (l : List PartM) : (encPs l).length = l.length := by simp [encPs]
theorem encPs_get {l : List PartM} {k : Nat} (h : k < l.length) : (encPs l)[k]? = some [vS l[k].label, vI l[k].tag, vI l[k].ty] := by simp [encPs, encP, h]
def encT (t : TypeM) : List AV := [vI t.kind, vI t.n, vI t.elem, .lst 3 (encPs t.parts)]
def numberOK (kind n : Int) : Bool :=
  if kind = 1 then decide (n = 1) || decide (n = 2) || decide (n = 4) || decide (n = 8)
  else if kind = 4 ∨ kind = 5 then decide (1 ≤ n) && decide (n ≤ 1048576) else decide (n = 0)
theorem number_any (kind n : Int) : PCall Try.prog 41 [vI kind, vI n] (fun r => r = vB (numberOK kind n)) := by
  refine go_fn (tyOf_ok _) Try.func41 rfl rfl (by rw [Try.results41]) Try.ntmps41 rfl fun E => ?_
  (repeat' (first
    | exact trivial
    | (with_reducible first | refine awA ?_ | refine awB ?_ | refine awC ?_ | refine awD ?_ | refine awE ?_ | refine awF ?_ | refine awG ?_ | refine awH ?_ | refine awI ?_ | refine awJ ?_ | refine awK ?_ | refine awL ?_ | refine awM (by decide) ?_)
    | ((with_reducible first | refine awN (tyOf_ok _) [] ?_ | refine awO (tyOf_ok _) [] ?_ | refine awP (tyOf_ok _) [] ?_ | refine awQ ?_ | refine awR ?_ | refine awS ?_); intro r hr; simp only [go_sem, Nat.reduceBEq, Nat.reduceBneDiff, Nat.reduceLT, Nat.reduceLeDiff, Nat.reduceAdd, Nat.reduceMul, Nat.reduceSub, Nat.reduceEqDiff, reduceCtorEq] at hr; subst hr; (first | refine awV ?_ ?_ | refine awW ?_ ?_ | refine endK ?_ ?_ | (refine condK (fun h => ?_) (fun h => ?_) <;> (try simp only [go_sem, reduceCtorEq] at h) <;> (try (exfalso; omega))))) | fail)) <;> (try omega)
  all_goals (show AV.v (.bool _) = AV.v (.bool _); simp [numberOK, *])
theorem in_any (n lo hi : Int) : PCall Try.prog 53 [vI n, vI lo, vI hi] (fun r => r = vB (decide (lo ≤ n) && decide (n ≤ hi))) := by
  refine go_fn (tyOf_ok _) Try.func53 rfl rfl (by rw [Try.results53]) Try.ntmps53 rfl fun E => ?_
  (repeat' (first
    | exact trivial
    | (with_reducible first | refine awA ?_ | refine awB ?_ | refine awC ?_ | refine awD ?_ | refine awE ?_ | refine awF ?_ | refine awG ?_ | refine awH ?_ | refine awI ?_ | refine awJ ?_ | refine awK ?_ | refine awL ?_ | refine awM (by decide) ?_)
    | ((with_reducible first | refine awN (tyOf_ok _) [] ?_ | refine awO (tyOf_ok _) [] ?_ | refine awP (tyOf_ok _) [] ?_ | refine awQ ?_ | refine awR ?_ | refine awS ?_); intro r hr; simp only [go_sem, Nat.reduceBEq, Nat.reduceBneDiff, Nat.reduceLT, Nat.reduceLeDiff, Nat.reduceAdd, Nat.reduceMul, Nat.reduceSub, Nat.reduceEqDiff, reduceCtorEq] at hr; subst hr; (first | refine awV ?_ ?_ | refine awW ?_ ?_ | refine endK ?_ ?_ | (refine condK (fun h => ?_) (fun h => ?_) <;> (try simp only [go_sem, reduceCtorEq] at h) <;> (try (exfalso; omega))))) | fail)) <;> (try omega)
  exact rfl
end Go.Proofs.Ytljfgohecmhchaa
end
section
namespace Go.Proofs.Ytljfgohecmhchaa
open Go.RowKit
set_option maxRecDepth 100000
set_option maxHeartbeats 4000000
def good (kind at_ : Int) (pre : List PartM) (p : PartM) : Bool :=
  if kind = 8 then isName p.label && decide (p.tag = 0) && decide (0 ≤ p.ty) && decide (p.ty < at_) && !(pre.any fun q => decide (q.label = p.label))
  else decide (0 ≤ p.tag) && decide (p.tag ≤ 255) && decide (p.label = ⟨#[]⟩) && decide (0 ≤ p.ty) && decide (p.ty < at_) && !(pre.any fun q => decide (q.tag = p.tag))
def goodFrom (kind at_ : Int) : List PartM → List PartM → Bool
  | _, [] => true
  | pre, p :: l => good kind at_ pre p && goodFrom kind at_ (pre ++ [p]) l
theorem goodFrom_step (kind at_ : Int) {l : List PartM} {k : Nat} (h : k < l.length) : goodFrom kind at_ (l.take k) (l.drop k) = (good kind at_ (l.take k) l[k] && goodFrom kind at_ (l.take (k + 1)) (l.drop (k + 1))) := by
  rw [List.drop_eq_getElem_cons h, List.take_succ_eq_append_getElem h]; rfl
def partsOK (kind at_ most : Int) (l : List PartM) : Bool := decide (1 ≤ (l.length : Int)) && decide ((l.length : Int) ≤ most) && goodFrom kind at_ [] l
theorem mput_any (k : Value) (v : AV) : ∀ es : List (AV × AV), ((es.any fun e => keyEq e.1 k) = true → (mput k v es).length = es.length) ∧ ((es.any fun e => keyEq e.1 k) = false → mput k v es = es ++ [(.v k, v)])
  | [] => by simp [mput]
  | (a, b) :: es => by
    obtain ⟨h1, h2⟩ := mput_any k v es
    simp only [mput, List.any_cons]
    cases h : keyEq a k with
    | true => simp
    | false => simp only [Bool.false_or, cond_false, List.length_cons, List.cons_append]; exact ⟨fun g => by rw [h1 g], fun g => by rw [h2 g]⟩
theorem any_keys {α : Type} (f : α → AV) (K : Value) (g : α → Bool) (hK : ∀ a, keyEq (f a) K = g a) (es : List (AV × AV)) (l : List α) (h : es.map (·.1) = l.map f) : (es.any fun e => keyEq e.1 K) = l.any g := by
  have h1 : (es.any fun e => keyEq e.1 K) = (es.map (·.1)).any (fun x => keyEq x K) := by simp [List.any_map, Function.comp_def]
  rw [h1, h, List.any_map]
  congr 1
  funext a
  exact hK a
theorem mput_len {K : Value} {v : AV} {es : List (AV × AV)} {b : Bool} (h : (es.any fun e => keyEq e.1 K) = b) : (mput K v es).length = if b = true then es.length else es.length + 1 := by
  cases b with
  | true => rw [(mput_any K v es).1 h]; rfl
  | false => rw [(mput_any K v es).2 h]; simp
theorem parts_any (kind n elem at_ most : Int) (l : List PartM) (hl : l.length ≤ 1000000000) : PCall Try.prog 42 [.agg [vI kind, vI n, vI elem, .lst 3 (encPs l)], vI at_, vI most] (fun r => r = vB (partsOK kind at_ most l)) := by
  refine go_fn (tyOf_ok _) Try.func42 rfl rfl (by rw [Try.results42]) Try.ntmps42 rfl fun E => ?_
  (repeat' (first
    | exact trivial
    | (with_reducible first | refine awA ?_ | refine awB ?_ | refine awC ?_ | refine awD ?_ | refine awE ?_ | refine awF ?_ | refine awG ?_ | refine awH ?_ | refine awI ?_ | refine awJ ?_ | refine awK ?_ | refine awL ?_ | refine awM (by decide) ?_)
    | ((with_reducible first | refine awN (tyOf_ok _) [] ?_ | refine awO (tyOf_ok _) [] ?_ | refine awP (tyOf_ok _) [] ?_ | refine awQ ?_ | refine awR ?_ | refine awS ?_); intro r hr; simp only [go_sem, Nat.reduceBEq, Nat.reduceBneDiff, Nat.reduceLT, Nat.reduceLeDiff, Nat.reduceAdd, Nat.reduceMul, Nat.reduceSub, Nat.reduceEqDiff, reduceCtorEq, encPs_len] at hr; subst hr; (first | refine awV ?_ ?_ | refine awW ?_ ?_ | refine endK ?_ ?_ | (refine condK (fun h => ?_) (fun h => ?_) <;> (try simp only [go_sem, reduceCtorEq] at h) <;> (try (exfalso; omega))))) | fail)) <;> (try omega)
  · show AV.v (.bool _) = AV.v (.bool _)
    have : (decide (1 ≤ (l.length : Int)) && decide ((l.length : Int) ≤ most)) = false := by
      rcases h with h | h
      · rw [decide_eq_false (by omega)]; rfl
      · rw [decide_eq_false (p := (l.length : Int) ≤ most) (by omega)]; simp
    rw [partsOK, this]; rfl
  have hP : partsOK kind at_ most l = goodFrom kind at_ [] l := by
    rw [partsOK, decide_eq_true (by omega), decide_eq_true (by omega)]; rfl
  by_cases k8 : kind = 8
  · have e8 : (kind = 8) = True := eq_true k8
    refine go_loop [1, 3, 7, 8, 26, 27, 28] [3, 23, 24] (fun x : Nat × List (AV × AV) => ⟨[(1, true, vI at_), (3, true, .ptr 1 3 0 0), (7, true, .map 23), (8, true, .map 24), (26, true, .lst 3 (encPs l)), (27, true, vI l.length), (28, true, vI x.1)],
      [(3, .var [vI kind, vI n, vI elem, .lst 3 (encPs l)]), (23, .mapo x.2), (24, .mapo [])]⟩)
      (fun x => x.1 ≤ l.length ∧ x.2.map (·.1) = (l.take x.1).map (fun p => vS p.label) ∧ goodFrom kind at_ [] l = goodFrom kind at_ (l.take x.1) (l.drop x.1)) (fun x => l.length - x.1) (0, []) (by simp only [go_sem, Nat.reduceBEq, Nat.reduceBneDiff, Nat.reduceLT, Nat.reduceLeDiff, Nat.reduceAdd, Nat.reduceMul, Nat.reduceSub, Nat.reduceEqDiff, reduceCtorEq, encPs_len]; exact rfl) ⟨Nat.zero_le _, rfl, rfl⟩ ?_
    intro ⟨k, es⟩ ⟨hk, hes, hg⟩
    simp only at hk hes hg ⊢
    have hw1 := wrap_i64 (n := (k : Int) + 1) (by omega)
    by_cases hlt : k < l.length
    · have e1 : ((k : Int) < l.length) = True := eq_true (by omega)
      have g1 := encPs_get hlt
      have hany := any_keys (fun p : PartM => vS p.label) (.string l[k].label) (fun q => decide (q.label = l[k].label)) (fun a => by simp only [keyEq]; exact decide_eq_decide.2 eq_comm) es (l.take k) hes
      have hel : es.length = k := by have := congrArg List.length hes; simpa [Nat.min_eq_left hk] using this
      have hml := mput_len (v := .v (.int .i64 k)) hany
      generalize hb : ((l.take k).any fun q => decide (q.label = l[k].label)) = b at hany hml
      have hwm := wrap_i64 (n := ((mput (.string l[k].label) (.v (.int .i64 k)) es).length : Int) + ((0 : Nat) : Int)) (by rw [hml]; split <;> omega)
      have hgd : good kind at_ (l.take k) l[k] = (isName l[k].label && decide (l[k].tag = 0) && decide (0 ≤ l[k].ty) && decide (l[k].ty < at_) && !b) := by rw [good, if_pos k8, hb]
      rw [goodFrom_step kind at_ hlt] at hg
      (repeat' (first
    | exact trivial
    | (with_reducible first | refine awA ?_ | refine awB ?_ | refine awC ?_ | refine awD ?_ | refine awE ?_ | refine awF ?_ | refine awG ?_ | refine awH ?_ | refine awI ?_ | refine awJ ?_ | refine awK ?_ | refine awL ?_ | refine awM (by decide) ?_)
    | ((with_reducible first | refine awN (tyOf_ok _) [] ?_ | refine awO (tyOf_ok _) [] ?_ | refine awP (tyOf_ok _) [] ?_ | refine awQ ?_ | refine awR ?_ | refine awS ?_); intro r hr; simp only [go_sem, Nat.reduceBEq, Nat.reduceBneDiff, Nat.reduceLT, Nat.reduceLeDiff, Nat.reduceAdd, Nat.reduceMul, Nat.reduceSub, Nat.reduceEqDiff, reduceCtorEq, hw1, e1, e8, g1, encPs_len, hwm] at hr; subst hr; (first | refine caA (fun _ => name_any l[k].label) rfl ?_ ?_ ?_ | refine awV ?_ ?_ | refine awW ?_ ?_ | refine endK ?_ ?_ | (refine condK (fun h => ?_) (fun h => ?_) <;> (try simp only [go_sem, reduceCtorEq] at h) <;> (try (exfalso; omega))))) | fail)) <;> (try omega)
      · intro e he
        have : e.1 ∈ es.map (·.1) := List.mem_map_of_mem he
        rw [hes] at this
        obtain ⟨p, _, hp⟩ := List.mem_map.1 this
        rw [← hp]
      · show AV.v (.bool _) = AV.v (.bool _)
        rw [hP, hg, hgd, h]; simp
      · show AV.v (.bool _) = AV.v (.bool _)
        have : good kind at_ (l.take k) l[k] = false := by
          rw [hgd, ← Bool.not_eq_true]
          intro hh
          simp only [Bool.and_eq_true, decide_eq_true_eq, Bool.not_eq_true'] at hh
          rw [hml, hh.2] at h
          simp at h
          omega
        rw [hP, hg, this]; simp
      · have hbf : b = false := by
          rcases Bool.eq_false_or_eq_true b with hb' | hb'
          · rw [hml, hb'] at h; simp at h; omega
          · exact hb'
        rw [hbf] at hany
        refine ⟨(k + 1, mput (.string l[k].label) (.v (.int .i64 k)) es), by simp only [go_sem, Nat.reduceBEq, Nat.reduceBneDiff, Nat.reduceLT, Nat.reduceLeDiff, Nat.reduceAdd, Nat.reduceMul, Nat.reduceSub, Nat.reduceEqDiff, reduceCtorEq]; exact rfl, ⟨hlt, ?_, ?_⟩, by simp only; omega⟩
        · rw [(mput_any _ _ _).2 hany, List.map_append, hes, List.take_succ_eq_append_getElem hlt, List.map_append]; rfl
        · rw [hg, hgd, ‹isName l[k].label = true›, hbf]
          simp only
          rw [decide_eq_true (by omega), decide_eq_true (by omega), decide_eq_true (by omega)]; rfl
    · have e1 : ((k : Int) < l.length) = False := eq_false (by omega)
      (repeat' (first
    | exact trivial
    | (with_reducible first | refine awA ?_ | refine awB ?_ | refine awC ?_ | refine awD ?_ | refine awE ?_ | refine awF ?_ | refine awG ?_ | refine awH ?_ | refine awI ?_ | refine awJ ?_ | refine awK ?_ | refine awL ?_ | refine awM (by decide) ?_)
    | ((with_reducible first | refine awN (tyOf_ok _) [] ?_ | refine awO (tyOf_ok _) [] ?_ | refine awP (tyOf_ok _) [] ?_ | refine awQ ?_ | refine awR ?_ | refine awS ?_); intro r hr; simp only [go_sem, Nat.reduceBEq, Nat.reduceBneDiff, Nat.reduceLT, Nat.reduceLeDiff, Nat.reduceAdd, Nat.reduceMul, Nat.reduceSub, Nat.reduceEqDiff, reduceCtorEq, hw1, e1, e8] at hr; subst hr; (first | refine awV ?_ ?_ | refine awW ?_ ?_ | refine endK ?_ ?_ | (refine condK (fun h => ?_) (fun h => ?_) <;> (try simp only [go_sem, reduceCtorEq] at h) <;> (try (exfalso; omega))))) | fail)) <;> (try omega)
      show AV.v (.bool _) = AV.v (.bool _)
      rw [hP, hg, List.drop_of_length_le (by omega)]; rfl
  · have e8 : (kind = 8) = False := eq_false k8
    refine go_loop [1, 3, 7, 8, 26, 27, 28] [3, 23, 24] (fun x : Nat × List (AV × AV) => ⟨[(1, true, vI at_), (3, true, .ptr 1 3 0 0), (7, true, .map 23), (8, true, .map 24), (26, true, .lst 3 (encPs l)), (27, true, vI l.length), (28, true, vI x.1)],
      [(3, .var [vI kind, vI n, vI elem, .lst 3 (encPs l)]), (23, .mapo []), (24, .mapo x.2)]⟩)
      (fun x => x.1 ≤ l.length ∧ x.2.map (·.1) = (l.take x.1).map (fun p => vI p.tag) ∧ goodFrom kind at_ [] l = goodFrom kind at_ (l.take x.1) (l.drop x.1)) (fun x => l.length - x.1) (0, []) (by simp only [go_sem, Nat.reduceBEq, Nat.reduceBneDiff, Nat.reduceLT, Nat.reduceLeDiff, Nat.reduceAdd, Nat.reduceMul, Nat.reduceSub, Nat.reduceEqDiff, reduceCtorEq, encPs_len]; exact rfl) ⟨Nat.zero_le _, rfl, rfl⟩ ?_
    intro ⟨k, es⟩ ⟨hk, hes, hg⟩
    simp only at hk hes hg ⊢
    have hw1 := wrap_i64 (n := (k : Int) + 1) (by omega)
    by_cases hlt : k < l.length
    · have e1 : ((k : Int) < l.length) = True := eq_true (by omega)
      have g1 := encPs_get hlt
      have hany := any_keys (fun p : PartM => vI p.tag) (.int .i64 l[k].tag) (fun q => decide (q.tag = l[k].tag)) (fun a => by simp only [keyEq]; exact decide_eq_decide.2 eq_comm) es (l.take k) hes
      have hel : es.length = k := by have := congrArg List.length hes; simpa [Nat.min_eq_left hk] using this
      have hml := mput_len (v := .v (.int .i64 k)) hany
      generalize hb : ((l.take k).any fun q => decide (q.tag = l[k].tag)) = b at hany hml
      have hwm := wrap_i64 (n := ((0 : Nat) : Int) + ((mput (.int .i64 l[k].tag) (.v (.int .i64 k)) es).length : Int)) (by rw [hml]; split <;> omega)
      have hgd : good kind at_ (l.take k) l[k] = (decide (0 ≤ l[k].tag) && decide (l[k].tag ≤ 255) && decide (l[k].label = ⟨#[]⟩) && decide (0 ≤ l[k].ty) && decide (l[k].ty < at_) && !b) := by rw [good, if_neg k8, hb]
      rw [goodFrom_step kind at_ hlt] at hg
      (repeat' (first
    | exact trivial
    | (with_reducible first | refine awA ?_ | refine awB ?_ | refine awC ?_ | refine awD ?_ | refine awE ?_ | refine awF ?_ | refine awG ?_ | refine awH ?_ | refine awI ?_ | refine awJ ?_ | refine awK ?_ | refine awL ?_ | refine awM (by decide) ?_)
    | ((with_reducible first | refine awN (tyOf_ok _) [] ?_ | refine awO (tyOf_ok _) [] ?_ | refine awP (tyOf_ok _) [] ?_ | refine awQ ?_ | refine awR ?_ | refine awS ?_); intro r hr; simp only [go_sem, Nat.reduceBEq, Nat.reduceBneDiff, Nat.reduceLT, Nat.reduceLeDiff, Nat.reduceAdd, Nat.reduceMul, Nat.reduceSub, Nat.reduceEqDiff, reduceCtorEq, hw1, e1, e8, g1, encPs_len, hwm] at hr; subst hr; (first | refine caA (fun _ => name_any l[k].label) rfl ?_ ?_ ?_ | refine awV ?_ ?_ | refine awW ?_ ?_ | refine endK ?_ ?_ | (refine condK (fun h => ?_) (fun h => ?_) <;> (try simp only [go_sem, reduceCtorEq] at h) <;> (try (exfalso; omega))))) | fail)) <;> (try omega)
      · intro e he
        have : e.1 ∈ es.map (·.1) := List.mem_map_of_mem he
        rw [hes] at this
        obtain ⟨p, _, hp⟩ := List.mem_map.1 this
        rw [← hp]
        simp
      · show AV.v (.bool _) = AV.v (.bool _)
        have : good kind at_ (l.take k) l[k] = false := by
          rw [hgd, ← Bool.not_eq_true]
          intro hh
          simp only [Bool.and_eq_true, decide_eq_true_eq, Bool.not_eq_true'] at hh
          omega
        rw [hP, hg, this]; simp
      · show AV.v (.bool _) = AV.v (.bool _)
        have : good kind at_ (l.take k) l[k] = false := by
          rw [hgd, ← Bool.not_eq_true]
          intro hh
          simp only [Bool.and_eq_true, decide_eq_true_eq, Bool.not_eq_true'] at hh
          rcases h with ((h | h) | h) | h
          · exact h hh.1.1.1.2
          · omega
          · omega
          · rw [hml, hh.2] at h
            simp at h
            omega
        rw [hP, hg, this]; simp
      · have hbf : b = false := by
          rcases Bool.eq_false_or_eq_true b with hb' | hb'
          · rw [hml, hb'] at h; simp at h; omega
          · exact hb'
        rw [hbf] at hany
        refine ⟨(k + 1, mput (.int .i64 l[k].tag) (.v (.int .i64 k)) es), by simp only [go_sem, Nat.reduceBEq, Nat.reduceBneDiff, Nat.reduceLT, Nat.reduceLeDiff, Nat.reduceAdd, Nat.reduceMul, Nat.reduceSub, Nat.reduceEqDiff, reduceCtorEq]; exact rfl, ⟨hlt, ?_, ?_⟩, by simp only; omega⟩
        · rw [(mput_any _ _ _).2 hany, List.map_append, hes, List.take_succ_eq_append_getElem hlt, List.map_append]; rfl
        · rw [hg, hgd, hbf]
          simp only
          rw [decide_eq_true (p := 0 ≤ l[k].tag) (by omega), decide_eq_true (p := l[k].tag ≤ 255) (by omega), decide_eq_true (p := l[k].label = ⟨#[]⟩) h.1.1.1, decide_eq_true (p := 0 ≤ l[k].ty) (by omega), decide_eq_true (p := l[k].ty < at_) (by omega)]; rfl
    · have e1 : ((k : Int) < l.length) = False := eq_false (by omega)
      (repeat' (first
    | exact trivial
    | (with_reducible first | refine awA ?_ | refine awB ?_ | refine awC ?_ | refine awD ?_ | refine awE ?_ | refine awF ?_ | refine awG ?_ | refine awH ?_ | refine awI ?_ | refine awJ ?_ | refine awK ?_ | refine awL ?_ | refine awM (by decide) ?_)
    | ((with_reducible first | refine awN (tyOf_ok _) [] ?_ | refine awO (tyOf_ok _) [] ?_ | refine awP (tyOf_ok _) [] ?_ | refine awQ ?_ | refine awR ?_ | refine awS ?_); intro r hr; simp only [go_sem, Nat.reduceBEq, Nat.reduceBneDiff, Nat.reduceLT, Nat.reduceLeDiff, Nat.reduceAdd, Nat.reduceMul, Nat.reduceSub, Nat.reduceEqDiff, reduceCtorEq, hw1, e1, e8] at hr; subst hr; (first | refine awV ?_ ?_ | refine awW ?_ ?_ | refine endK ?_ ?_ | (refine condK (fun h => ?_) (fun h => ?_) <;> (try simp only [go_sem, reduceCtorEq] at h) <;> (try (exfalso; omega))))) | fail)) <;> (try omega)
      show AV.v (.bool _) = AV.v (.bool _)
      rw [hP, hg, List.drop_of_length_le (by omega)]; rfl
end Go.Proofs.Ytljfgohecmhchaa
end
section
namespace Go.Proofs.Ytljfgohecmhchaa
open Go.RowKit
set_option maxRecDepth 100000
set_option maxHeartbeats 4000000
def rightOK (t : TypeM) (at_ : Int) : Bool :=
  numberOK t.kind t.n && (if t.kind = 1 ∨ t.kind = 2 ∨ t.kind = 3 then decide (t.elem = 0) && decide ((t.parts.length : Int) = 0)
  else if t.kind = 4 ∨ t.kind = 5 ∨ t.kind = 6 then (decide (0 ≤ t.elem) && decide (t.elem < at_)) && decide ((t.parts.length : Int) = 0)
  else if t.kind = 8 ∨ t.kind = 7 then decide (t.elem = 0) && partsOK t.kind at_ 64 t.parts else false)
theorem right_any (t : TypeM) (at_ : Int) (hl : t.parts.length ≤ 1000000000) : PCall Try.prog 19 [.agg [vI t.kind, vI t.n, vI t.elem, .lst 3 (encPs t.parts)], vI at_] (fun r => r = vB (rightOK t at_)) := by
  refine go_fn (tyOf_ok _) Try.func19 rfl rfl (by rw [Try.results19]) Try.ntmps19 rfl fun E => ?_
  (repeat' (first
    | exact trivial
    | (with_reducible first | refine awA ?_ | refine awB ?_ | refine awC ?_ | refine awD ?_ | refine awE ?_ | refine awF ?_ | refine awG ?_ | refine awH ?_ | refine awI ?_ | refine awJ ?_ | refine awK ?_ | refine awL ?_ | refine awM (by decide) ?_)
    | ((with_reducible first | refine awN (tyOf_ok _) [] ?_ | refine awO (tyOf_ok _) [] ?_ | refine awP (tyOf_ok _) [] ?_ | refine awQ ?_ | refine awR ?_ | refine awS ?_); intro r hr; simp only [go_sem, Nat.reduceBEq, Nat.reduceBneDiff, Nat.reduceLT, Nat.reduceLeDiff, Nat.reduceAdd, Nat.reduceMul, Nat.reduceSub, Nat.reduceEqDiff, reduceCtorEq, encPs_len] at hr; subst hr; (first | refine caA (fun _ => number_any _ _) rfl ?_ ?_ ?_ | refine caA (fun _ => parts_any _ _ _ _ _ _ hl) rfl ?_ ?_ ?_ | refine awV ?_ ?_ | refine awW ?_ ?_ | refine endK ?_ ?_ | (refine condK (fun h => ?_) (fun h => ?_) <;> (try simp only [go_sem, reduceCtorEq] at h) <;> (try (exfalso; omega))))) | fail)) <;> (try omega)
  all_goals (show AV.v (.bool _) = AV.v (.bool _); (first | rw [rightOK, ‹numberOK t.kind t.n = true›] | rw [rightOK, ‹numberOK t.kind t.n = false›]); simp [*])
end Go.Proofs.Ytljfgohecmhchaa
end
section
namespace Go.Proofs.Ytljfgohecmhchaa
open Go.RowKit
set_option maxRecDepth 100000
set_option maxHeartbeats 4000000
def encTs (l : List TypeM) : List (List AV) := l.map encT
theorem encTs_len (l : List TypeM) : (encTs l).length = l.length := by simp [encTs]
theorem encTs_get {l : List TypeM} {k : Nat} (h : k < l.length) : (encTs l)[k]? = some [vI l[k].kind, vI l[k].n, vI l[k].elem, .lst 3 (encPs l[k].parts)] := by simp [encTs, encT, h]
def dep0 (ds : List Int) (t : TypeM) : Int := if t.kind = 4 ∨ t.kind = 5 ∨ t.kind = 6 then ds.getD t.elem.toNat 0 else 0
def depTo (ds : List Int) (l : List PartM) (m : Int) : Int := l.foldl (fun m p => max m (ds.getD p.ty.toNat 0)) m
def dep (ds : List Int) (t : TypeM) : Int := depTo ds t.parts (dep0 ds t) + 1
def deps (l : List TypeM) : List Int := l.foldl (fun ds t => ds ++ [dep ds t]) []
theorem deps_succ {l : List TypeM} {k : Nat} (h : k < l.length) : deps (l.take (k + 1)) = deps (l.take k) ++ [dep (deps (l.take k)) l[k]] := by
  rw [List.take_succ_eq_append_getElem h, deps, List.foldl_append]; rfl
theorem deps_len (l : List TypeM) : ∀ k, k ≤ l.length → (deps (l.take k)).length = k := by
  intro k
  induction k with
  | zero => intro _; rfl
  | succ k ih => intro h; rw [deps_succ (by omega), List.length_append, ih (by omega)]; rfl
/-- the row while place k is being written -/
def RX (D : List Int) (c : Int) (m : Nat) : List (List AV) := v8 D ++ [vI c] :: List.replicate m [vI 0]
theorem RX_len (D : List Int) (c : Int) (m : Nat) : (RX D c m).length = D.length + (m + 1) := by simp [RX, v8]
theorem RX_self {D : List Int} {c : Int} {m k : Nat} (h : D.length = k) : (RX D c m)[k]? = some [vI c] := by
  subst h
  rw [RX, List.getElem?_append_right (by rw [v8_len]; exact Nat.le_refl _), v8_len, Nat.sub_self]; rfl
theorem RX_low {D : List Int} {c : Int} {m j : Nat} (h : j < D.length) : (RX D c m)[j]? = some [vI (D.getD j 0)] := by
  rw [RX, List.getElem?_append_left (by rw [v8_len]; exact h), v8_get h, List.getD_eq_getElem?_getD, List.getElem?_eq_getElem h]; rfl
theorem RX_set {D : List Int} {c c' : Int} {m k : Nat} (h : D.length = k) : (RX D c m).set k [vI c'] = RX D c' m := by
  subst h
  rw [RX, List.set_append_right _ _ (by rw [v8_len]; exact Nat.le_refl _), v8_len, Nat.sub_self]; rfl
theorem depTo_succ (D : List Int) (l : List PartM) (c : Int) {j : Nat} (h : j < l.length) : depTo D (l.take (j + 1)) c = max (depTo D (l.take j) c) (D.getD l[j].ty.toNat 0) := by
  rw [List.take_succ_eq_append_getElem h, depTo, List.foldl_append]; rfl
theorem depTo_le {D : List Int} (hD : ∀ i, 0 ≤ D.getD i 0 ∧ D.getD i 0 ≤ 64) : ∀ (l : List PartM) (c : Int), 0 ≤ c → c ≤ 64 → 0 ≤ depTo D l c ∧ depTo D l c ≤ 64
  | [], c, h1, h2 => ⟨h1, h2⟩
  | p :: l, c, h1, h2 => by
    have := hD p.ty.toNat
    exact depTo_le hD l (max c (D.getD p.ty.toNat 0)) (by omega) (by omega)
theorem getD_app (D : List Int) (c : Int) (P : Int → Prop) (h : ∀ i, P (D.getD i 0)) (hc : P c) (h0 : P 0) (i : Nat) : P ((D ++ [c]).getD i 0) := by
  rw [List.getD_eq_getElem?_getD]
  rcases Nat.lt_trichotomy i D.length with h' | h' | h'
  · rw [List.getElem?_append_left h', ← List.getD_eq_getElem?_getD]; exact h i
  · subst h'; simp; exact hc
  · rw [List.getElem?_eq_none (by simp; omega)]; exact h0
def tooDeep (l : List TypeM) (k : Nat) : Bool := decide (64 < dep (deps (l.take k)) ((l[k]?).getD ⟨0, 0, 0, []⟩))
def deepF (l : List TypeM) : Int × Int := match (List.range l.length).find? (tooDeep l) with
  | some k => (83, k)
  | none => (0, 0)
def vF (f : Int × Int) : AV := .agg [vI f.1, vI f.2]
def tyOK (t : TypeM) (k : Nat) : Prop := (t.kind = 4 ∨ t.kind = 5 ∨ t.kind = 6 → 0 ≤ t.elem ∧ t.elem < k) ∧ ∀ p ∈ t.parts, 0 ≤ p.ty ∧ p.ty < k
theorem deep_any (l : List TypeM) (hl : l.length ≤ 1000000000) (hp : ∀ t ∈ l, t.parts.length ≤ 1000000000) (hr : ∀ (k : Nat) (h : k < l.length), tyOK l[k] k) : PCall Try.prog 20 [.lst 4 (encTs l)] (fun r => r = vF (deepF l)) := by
  refine go_fn (tyOf_ok _) Try.func20 rfl rfl (by rw [Try.results20]) Try.ntmps20 rfl fun E => ?_
  (repeat' (first
    | exact trivial
    | (with_reducible first | refine awA ?_ | refine awB ?_ | refine awC ?_ | refine awD ?_ | refine awE ?_ | refine awF ?_ | refine awG ?_ | refine awH ?_ | refine awI ?_ | refine awJ ?_ | refine awK ?_ | refine awL ?_ | refine awM (by decide) ?_)
    | (refine aw_draw (id := 13) (t := (.node [0, 1, 2, 3, 4, 5, 6, 7, 8, 9, 10, 11, 12, 13] [])) (drR [7] [44, 49] []) mixed (by kernel_rfl) (by kernel_rfl) (fun _ _ h => h) ?_)
    | (refine at_done (by simp only [List.filterMap_cons, List.filterMap_nil, List.getElem?_toArray, List.getElem?_cons_zero, List.getElem?_cons_succ]; exact rfl) ?_) | (refine at_alt (by simp only [List.filterMap_cons, List.filterMap_nil, List.getElem?_toArray, List.getElem?_cons_zero, List.getElem?_cons_succ]; exact rfl) ?_) | refine qalt_normal ?_ | refine ats_cons ?_ ?_ | exact ats_nil
    | ((with_reducible first | refine awN (tyOf_ok _) [] ?_ | refine awO (tyOf_ok _) [] ?_ | refine awP (tyOf_ok _) [] ?_ | refine awQ ?_ | refine awR ?_ | refine awS ?_); intro r hr; simp only [go_sem, Nat.reduceBEq, Nat.reduceBneDiff, Nat.reduceLT, Nat.reduceLeDiff, Nat.reduceAdd, Nat.reduceMul, Nat.reduceSub, Nat.reduceEqDiff, reduceCtorEq, encTs_len] at hr; subst hr; (first | refine awV ?_ ?_ | refine awW ?_ ?_ | refine endK ?_ ?_ | (refine condK (fun h => ?_) (fun h => ?_) <;> (try simp only [go_sem, reduceCtorEq] at h) <;> (try (exfalso; omega))))) | fail)) <;> (try omega)
  refine go_loop [2, 3, 11, 12, 13] [10, 2] (fun k : Nat => ⟨[(2, true, .ptr 1 2 0 0), (3, true, .ref 3 1 10 0 l.length), (11, true, .lst 4 (encTs l)), (12, true, vI l.length), (13, true, vI k)],
    [(10, .row 3 1 (v8 (deps (l.take k)) ++ List.replicate (l.length - k) [vI 0])), (2, .var [vI 0, vI 0])]⟩)
    (fun k => k ≤ l.length ∧ (∀ i, 0 ≤ (deps (l.take k)).getD i 0 ∧ (deps (l.take k)).getD i 0 ≤ 64) ∧ ∀ i, i < k → tooDeep l i = false) (fun k => l.length - k) 0 (by simp only [go_sem, Nat.reduceBEq, Nat.reduceBneDiff, Nat.reduceLT, Nat.reduceLeDiff, Nat.reduceAdd, Nat.reduceMul, Nat.reduceSub, Nat.reduceEqDiff, reduceCtorEq, encTs_len]; exact rfl) ⟨Nat.zero_le _, fun i => by simp [deps], fun i h => by omega⟩ ?_
  intro k ⟨hk, hd, hno⟩
  have hw1 := wrap_i64 (n := (k : Int) + 1) (by omega)
  by_cases hlt : k < l.length
  · have e1 : ((k : Int) < l.length) = True := eq_true (by omega)
    have g1 := encTs_get hlt
    have hDl := deps_len l k hk
    obtain ⟨hel0, hpt⟩ := hr k hlt
    have hpl := hp _ (List.getElem_mem hlt)
    have hnext := deps_succ hlt
    have htd : tooDeep l k = decide (64 < dep (deps (l.take k)) l[k]) := by rw [tooDeep, List.getElem?_eq_getElem hlt]; rfl
    generalize hD : deps (l.take k) = D at hd hDl hnext htd
    have hrow : v8 D ++ List.replicate (l.length - k) [vI 0] = RX D 0 (l.length - k - 1) := by
      rw [RX, show l.length - k = (l.length - k - 1) + 1 by omega, List.replicate_succ]; rfl
    have r1 : ∀ c, (RX D c (l.length - k - 1))[k]? = some [vI c] := fun c => RX_self hDl
    have r2 : ∀ c c', (RX D c (l.length - k - 1)).set k [vI c'] = RX D c' (l.length - k - 1) := fun c c' => RX_set hDl
    have r3 : ∀ c, (RX D c (l.length - k - 1)).length = l.length := fun c => by rw [RX_len, hDl]; omega
    have hfind : tooDeep l k = true → (List.range l.length).find? (tooDeep l) = some k := fun h => by
      rw [List.find?_range_eq_some]
      exact ⟨h, List.mem_range.2 hlt, fun j hj => by simp [hno j hj]⟩
    by_cases hkind : l[k].kind = 4 ∨ l[k].kind = 5 ∨ l[k].kind = 6
    · have hel := hel0 hkind
      have r4 : ∀ c, (RX D c (l.length - k - 1))[l[k].elem.toNat]? = some [vI (D.getD l[k].elem.toNat 0)] := fun c => RX_low (by omega)
      have hc0 : dep0 D l[k] = D.getD l[k].elem.toNat 0 := by rw [dep0, if_pos hkind]
      have hcb := hd l[k].elem.toNat
      (repeat' (first
    | exact trivial
    | (with_reducible first | refine awA ?_ | refine awB ?_ | refine awC ?_ | refine awD ?_ | refine awE ?_ | refine awF ?_ | refine awG ?_ | refine awH ?_ | refine awI ?_ | refine awJ ?_ | refine awK ?_ | refine awL ?_ | refine awM (by decide) ?_)
    | (refine aw_draw (id := 13) (t := (.node [0, 1, 2, 3, 4, 5, 6, 7, 8, 9, 10, 11, 12, 13] [])) (drR [7] [44, 49] []) mixed (by kernel_rfl) (by kernel_rfl) (fun _ _ h => h) ?_)
    | (refine at_done (by simp only [List.filterMap_cons, List.filterMap_nil, List.getElem?_toArray, List.getElem?_cons_zero, List.getElem?_cons_succ]; exact rfl) ?_) | (refine at_alt (by simp only [List.filterMap_cons, List.filterMap_nil, List.getElem?_toArray, List.getElem?_cons_zero, List.getElem?_cons_succ]; exact rfl) ?_) | refine qalt_normal ?_ | refine ats_cons ?_ ?_ | exact ats_nil
    | ((with_reducible first | refine awN (tyOf_ok _) [] ?_ | refine awO (tyOf_ok _) [] ?_ | refine awP (tyOf_ok _) [] ?_ | refine awQ ?_ | refine awR ?_ | refine awS ?_); intro r hr; simp only [go_sem, Nat.reduceBEq, Nat.reduceBneDiff, Nat.reduceLT, Nat.reduceLeDiff, Nat.reduceAdd, Nat.reduceMul, Nat.reduceSub, Nat.reduceEqDiff, reduceCtorEq, hw1, e1, g1, encTs_len, encPs_len, hrow, r1, r2, r3, r4] at hr; subst hr; (first | refine awV ?_ ?_ | refine awW ?_ ?_ | refine endK ?_ ?_ | (refine condK (fun h => ?_) (fun h => ?_) <;> (try simp only [go_sem, reduceCtorEq] at h) <;> (try (exfalso; omega))))) | fail)) <;> (try omega)
      all_goals
        refine go_loop [2, 3, 4, 11, 12, 13, 33, 34, 35] [10, 2] (fun j : Nat => ⟨[(2, true, .ptr 1 2 0 0), (3, true, .ref 3 1 10 0 l.length), (4, true, vI k), (11, true, .lst 4 (encTs l)), (12, true, vI l.length), (13, true, vI k), (33, true, .lst 3 (encPs l[k].parts)), (34, true, vI l[k].parts.length), (35, true, vI j)],
          [(10, .row 3 1 (RX D (depTo D (l[k].parts.take j) (dep0 D l[k])) (l.length - k - 1))), (2, .var [vI 0, vI 0])]⟩)
          (fun j => j ≤ l[k].parts.length) (fun j => l[k].parts.length - j) 0 (by simp only [hc0, go_sem, Nat.reduceBEq, Nat.reduceBneDiff, Nat.reduceLT, Nat.reduceLeDiff, Nat.reduceAdd, Nat.reduceMul, Nat.reduceSub, Nat.reduceEqDiff, reduceCtorEq]; exact rfl) (Nat.zero_le _) ?_
        intro j hj
        have hw2 := wrap_i64 (n := (j : Int) + 1) (by omega)
        by_cases hjl : j < l[k].parts.length
        · have e2 : ((j : Int) < l[k].parts.length) = True := eq_true (by omega)
          have g2 := encPs_get hjl
          have hty := hpt _ (List.getElem_mem hjl)
          have r5 : ∀ c, (RX D c (l.length - k - 1))[l[k].parts[j].ty.toNat]? = some [vI (D.getD l[k].parts[j].ty.toNat 0)] := fun c => RX_low (by omega)
          have hds := (depTo_succ D l[k].parts (dep0 D l[k]) hjl).symm
          (repeat' (first
    | exact trivial
    | (with_reducible first | refine awA ?_ | refine awB ?_ | refine awC ?_ | refine awD ?_ | refine awE ?_ | refine awF ?_ | refine awG ?_ | refine awH ?_ | refine awI ?_ | refine awJ ?_ | refine awK ?_ | refine awL ?_ | refine awM (by decide) ?_)
    | (refine aw_draw (id := 13) (t := (.node [0, 1, 2, 3, 4, 5, 6, 7, 8, 9, 10, 11, 12, 13] [])) (drR [7] [44, 49] []) mixed (by kernel_rfl) (by kernel_rfl) (fun _ _ h => h) ?_)
    | (refine at_done (by simp only [List.filterMap_cons, List.filterMap_nil, List.getElem?_toArray, List.getElem?_cons_zero, List.getElem?_cons_succ]; exact rfl) ?_) | (refine at_alt (by simp only [List.filterMap_cons, List.filterMap_nil, List.getElem?_toArray, List.getElem?_cons_zero, List.getElem?_cons_succ]; exact rfl) ?_) | refine qalt_normal ?_ | refine ats_cons ?_ ?_ | exact ats_nil
    | ((with_reducible first | refine awN (tyOf_ok _) [] ?_ | refine awO (tyOf_ok _) [] ?_ | refine awP (tyOf_ok _) [] ?_ | refine awQ ?_ | refine awR ?_ | refine awS ?_); intro r hr; simp only [go_sem, Nat.reduceBEq, Nat.reduceBneDiff, Nat.reduceLT, Nat.reduceLeDiff, Nat.reduceAdd, Nat.reduceMul, Nat.reduceSub, Nat.reduceEqDiff, reduceCtorEq, hw2, e2, g2, encPs_len, r1, r2, r3, r5, hds] at hr; subst hr; (first | refine awV ?_ ?_ | refine awW ?_ ?_ | refine endK ?_ ?_ | (refine condK (fun h => ?_) (fun h => ?_) <;> (try simp only [go_sem, reduceCtorEq] at h) <;> (try (exfalso; omega))))) | fail)) <;> (try omega)
          exact ⟨j + 1, by simp only [go_sem, Nat.reduceBEq, Nat.reduceBneDiff, Nat.reduceLT, Nat.reduceLeDiff, Nat.reduceAdd, Nat.reduceMul, Nat.reduceSub, Nat.reduceEqDiff, reduceCtorEq]; exact rfl, hjl, by omega⟩
        · have e2 : ((j : Int) < l[k].parts.length) = False := eq_false (by omega)
          have hje : l[k].parts.take j = l[k].parts := take_len (by omega)
          have hdb := depTo_le hd l[k].parts (dep0 D l[k]) (by omega) (by omega)
          have hw3 := wrap_i64 (n := depTo D l[k].parts (dep0 D l[k]) + 1) (by omega)
          (repeat' (first
    | exact trivial
    | (with_reducible first | refine awA ?_ | refine awB ?_ | refine awC ?_ | refine awD ?_ | refine awE ?_ | refine awF ?_ | refine awG ?_ | refine awH ?_ | refine awI ?_ | refine awJ ?_ | refine awK ?_ | refine awL ?_ | refine awM (by decide) ?_)
    | (refine aw_draw (id := 13) (t := (.node [0, 1, 2, 3, 4, 5, 6, 7, 8, 9, 10, 11, 12, 13] [])) (drR [7] [44, 49] []) mixed (by kernel_rfl) (by kernel_rfl) (fun _ _ h => h) ?_)
    | (refine at_done (by simp only [List.filterMap_cons, List.filterMap_nil, List.getElem?_toArray, List.getElem?_cons_zero, List.getElem?_cons_succ]; exact rfl) ?_) | (refine at_alt (by simp only [List.filterMap_cons, List.filterMap_nil, List.getElem?_toArray, List.getElem?_cons_zero, List.getElem?_cons_succ]; exact rfl) ?_) | refine qalt_normal ?_ | refine ats_cons ?_ ?_ | exact ats_nil
    | ((with_reducible first | refine awN (tyOf_ok _) [] ?_ | refine awO (tyOf_ok _) [] ?_ | refine awP (tyOf_ok _) [] ?_ | refine awQ ?_ | refine awR ?_ | refine awS ?_); intro r hr; simp only [go_sem, Nat.reduceBEq, Nat.reduceBneDiff, Nat.reduceLT, Nat.reduceLeDiff, Nat.reduceAdd, Nat.reduceMul, Nat.reduceSub, Nat.reduceEqDiff, reduceCtorEq, hw1, hw2, hw3, e2, r1, r2, r3, hje] at hr; subst hr; (first | refine awV ?_ ?_ | refine awW ?_ ?_ | refine endK ?_ ?_ | (refine condK (fun h => ?_) (fun h => ?_) <;> (try simp only [go_sem, reduceCtorEq] at h) <;> (try (exfalso; omega))))) | fail)) <;> (try omega)
          · show vF (83, (k : Int)) = vF (deepF l)
            rw [deepF, hfind (by rw [htd]; exact decide_eq_true h)]
          · have hrx : RX D (depTo D l[k].parts (dep0 D l[k]) + 1) (l.length - k - 1) = v8 (deps (l.take (k + 1))) ++ List.replicate (l.length - (k + 1)) [vI 0] := by
              rw [hnext, show l.length - (k + 1) = l.length - k - 1 by omega]
              simp [RX, v8, dep]
            refine ⟨k + 1, by simp only [go_sem, Nat.reduceBEq, Nat.reduceBneDiff, Nat.reduceLT, Nat.reduceLeDiff, Nat.reduceAdd, Nat.reduceMul, Nat.reduceSub, Nat.reduceEqDiff, reduceCtorEq, hrx]; exact rfl, ⟨hlt, fun i => ?_, fun i hi => ?_⟩, by omega⟩
            · rw [hnext]
              exact getD_app D _ (fun z => 0 ≤ z ∧ z ≤ 64) hd (by show 0 ≤ depTo _ _ _ + 1 ∧ depTo _ _ _ + 1 ≤ 64; omega) (by omega) i
            · rcases Nat.lt_or_ge i k with h' | h'
              · exact hno i h'
              · have : i = k := by omega
                subst this
                rw [htd]; exact decide_eq_false h
    · have k4 : ¬ l[k].kind = 4 := fun h => hkind (.inl h)
      have k5 : ¬ l[k].kind = 5 := fun h => hkind (.inr (.inl h))
      have k6 : ¬ l[k].kind = 6 := fun h => hkind (.inr (.inr h))
      have hc0 : dep0 D l[k] = 0 := by rw [dep0, if_neg hkind]
      have hcb : (0 : Int) ≤ 0 ∧ (0 : Int) ≤ 64 := by omega
      (repeat' (first
    | exact trivial
    | (with_reducible first | refine awA ?_ | refine awB ?_ | refine awC ?_ | refine awD ?_ | refine awE ?_ | refine awF ?_ | refine awG ?_ | refine awH ?_ | refine awI ?_ | refine awJ ?_ | refine awK ?_ | refine awL ?_ | refine awM (by decide) ?_)
    | (refine aw_draw (id := 13) (t := (.node [0, 1, 2, 3, 4, 5, 6, 7, 8, 9, 10, 11, 12, 13] [])) (drR [7] [44, 49] []) mixed (by kernel_rfl) (by kernel_rfl) (fun _ _ h => h) ?_)
    | (refine at_done (by simp only [List.filterMap_cons, List.filterMap_nil, List.getElem?_toArray, List.getElem?_cons_zero, List.getElem?_cons_succ]; exact rfl) ?_) | (refine at_alt (by simp only [List.filterMap_cons, List.filterMap_nil, List.getElem?_toArray, List.getElem?_cons_zero, List.getElem?_cons_succ]; exact rfl) ?_) | refine qalt_normal ?_ | refine ats_cons ?_ ?_ | exact ats_nil
    | ((with_reducible first | refine awN (tyOf_ok _) [] ?_ | refine awO (tyOf_ok _) [] ?_ | refine awP (tyOf_ok _) [] ?_ | refine awQ ?_ | refine awR ?_ | refine awS ?_); intro r hr; simp only [go_sem, Nat.reduceBEq, Nat.reduceBneDiff, Nat.reduceLT, Nat.reduceLeDiff, Nat.reduceAdd, Nat.reduceMul, Nat.reduceSub, Nat.reduceEqDiff, reduceCtorEq, hw1, e1, g1, encTs_len, encPs_len, hrow, r1, r2, r3, k4, k5, k6] at hr; subst hr; (first | refine awV ?_ ?_ | refine awW ?_ ?_ | refine endK ?_ ?_ | (refine condK (fun h => ?_) (fun h => ?_) <;> (try simp only [go_sem, reduceCtorEq] at h) <;> (try (exfalso; omega))))) | fail)) <;> (try omega)
      all_goals
        refine go_loop [2, 3, 4, 11, 12, 13, 33, 34, 35] [10, 2] (fun j : Nat => ⟨[(2, true, .ptr 1 2 0 0), (3, true, .ref 3 1 10 0 l.length), (4, true, vI k), (11, true, .lst 4 (encTs l)), (12, true, vI l.length), (13, true, vI k), (33, true, .lst 3 (encPs l[k].parts)), (34, true, vI l[k].parts.length), (35, true, vI j)],
          [(10, .row 3 1 (RX D (depTo D (l[k].parts.take j) (dep0 D l[k])) (l.length - k - 1))), (2, .var [vI 0, vI 0])]⟩)
          (fun j => j ≤ l[k].parts.length) (fun j => l[k].parts.length - j) 0 (by simp only [hc0, go_sem, Nat.reduceBEq, Nat.reduceBneDiff, Nat.reduceLT, Nat.reduceLeDiff, Nat.reduceAdd, Nat.reduceMul, Nat.reduceSub, Nat.reduceEqDiff, reduceCtorEq]; exact rfl) (Nat.zero_le _) ?_
        intro j hj
        have hw2 := wrap_i64 (n := (j : Int) + 1) (by omega)
        by_cases hjl : j < l[k].parts.length
        · have e2 : ((j : Int) < l[k].parts.length) = True := eq_true (by omega)
          have g2 := encPs_get hjl
          have hty := hpt _ (List.getElem_mem hjl)
          have r5 : ∀ c, (RX D c (l.length - k - 1))[l[k].parts[j].ty.toNat]? = some [vI (D.getD l[k].parts[j].ty.toNat 0)] := fun c => RX_low (by omega)
          have hds := (depTo_succ D l[k].parts (dep0 D l[k]) hjl).symm
          (repeat' (first
    | exact trivial
    | (with_reducible first | refine awA ?_ | refine awB ?_ | refine awC ?_ | refine awD ?_ | refine awE ?_ | refine awF ?_ | refine awG ?_ | refine awH ?_ | refine awI ?_ | refine awJ ?_ | refine awK ?_ | refine awL ?_ | refine awM (by decide) ?_)
    | (refine aw_draw (id := 13) (t := (.node [0, 1, 2, 3, 4, 5, 6, 7, 8, 9, 10, 11, 12, 13] [])) (drR [7] [44, 49] []) mixed (by kernel_rfl) (by kernel_rfl) (fun _ _ h => h) ?_)
    | (refine at_done (by simp only [List.filterMap_cons, List.filterMap_nil, List.getElem?_toArray, List.getElem?_cons_zero, List.getElem?_cons_succ]; exact rfl) ?_) | (refine at_alt (by simp only [List.filterMap_cons, List.filterMap_nil, List.getElem?_toArray, List.getElem?_cons_zero, List.getElem?_cons_succ]; exact rfl) ?_) | refine qalt_normal ?_ | refine ats_cons ?_ ?_ | exact ats_nil
    | ((with_reducible first | refine awN (tyOf_ok _) [] ?_ | refine awO (tyOf_ok _) [] ?_ | refine awP (tyOf_ok _) [] ?_ | refine awQ ?_ | refine awR ?_ | refine awS ?_); intro r hr; simp only [go_sem, Nat.reduceBEq, Nat.reduceBneDiff, Nat.reduceLT, Nat.reduceLeDiff, Nat.reduceAdd, Nat.reduceMul, Nat.reduceSub, Nat.reduceEqDiff, reduceCtorEq, hw2, e2, g2, encPs_len, r1, r2, r3, r5, hds] at hr; subst hr; (first | refine awV ?_ ?_ | refine awW ?_ ?_ | refine endK ?_ ?_ | (refine condK (fun h => ?_) (fun h => ?_) <;> (try simp only [go_sem, reduceCtorEq] at h) <;> (try (exfalso; omega))))) | fail)) <;> (try omega)
          exact ⟨j + 1, by simp only [go_sem, Nat.reduceBEq, Nat.reduceBneDiff, Nat.reduceLT, Nat.reduceLeDiff, Nat.reduceAdd, Nat.reduceMul, Nat.reduceSub, Nat.reduceEqDiff, reduceCtorEq]; exact rfl, hjl, by omega⟩
        · have e2 : ((j : Int) < l[k].parts.length) = False := eq_false (by omega)
          have hje : l[k].parts.take j = l[k].parts := take_len (by omega)
          have hdb := depTo_le hd l[k].parts (dep0 D l[k]) (by omega) (by omega)
          have hw3 := wrap_i64 (n := depTo D l[k].parts (dep0 D l[k]) + 1) (by omega)
          (repeat' (first
    | exact trivial
    | (with_reducible first | refine awA ?_ | refine awB ?_ | refine awC ?_ | refine awD ?_ | refine awE ?_ | refine awF ?_ | refine awG ?_ | refine awH ?_ | refine awI ?_ | refine awJ ?_ | refine awK ?_ | refine awL ?_ | refine awM (by decide) ?_)
    | (refine aw_draw (id := 13) (t := (.node [0, 1, 2, 3, 4, 5, 6, 7, 8, 9, 10, 11, 12, 13] [])) (drR [7] [44, 49] []) mixed (by kernel_rfl) (by kernel_rfl) (fun _ _ h => h) ?_)
    | (refine at_done (by simp only [List.filterMap_cons, List.filterMap_nil, List.getElem?_toArray, List.getElem?_cons_zero, List.getElem?_cons_succ]; exact rfl) ?_) | (refine at_alt (by simp only [List.filterMap_cons, List.filterMap_nil, List.getElem?_toArray, List.getElem?_cons_zero, List.getElem?_cons_succ]; exact rfl) ?_) | refine qalt_normal ?_ | refine ats_cons ?_ ?_ | exact ats_nil
    | ((with_reducible first | refine awN (tyOf_ok _) [] ?_ | refine awO (tyOf_ok _) [] ?_ | refine awP (tyOf_ok _) [] ?_ | refine awQ ?_ | refine awR ?_ | refine awS ?_); intro r hr; simp only [go_sem, Nat.reduceBEq, Nat.reduceBneDiff, Nat.reduceLT, Nat.reduceLeDiff, Nat.reduceAdd, Nat.reduceMul, Nat.reduceSub, Nat.reduceEqDiff, reduceCtorEq, hw1, hw2, hw3, e2, r1, r2, r3, hje] at hr; subst hr; (first | refine awV ?_ ?_ | refine awW ?_ ?_ | refine endK ?_ ?_ | (refine condK (fun h => ?_) (fun h => ?_) <;> (try simp only [go_sem, reduceCtorEq] at h) <;> (try (exfalso; omega))))) | fail)) <;> (try omega)
          · show vF (83, (k : Int)) = vF (deepF l)
            rw [deepF, hfind (by rw [htd]; exact decide_eq_true h)]
          · have hrx : RX D (depTo D l[k].parts (dep0 D l[k]) + 1) (l.length - k - 1) = v8 (deps (l.take (k + 1))) ++ List.replicate (l.length - (k + 1)) [vI 0] := by
              rw [hnext, show l.length - (k + 1) = l.length - k - 1 by omega]
              simp [RX, v8, dep]
            refine ⟨k + 1, by simp only [go_sem, Nat.reduceBEq, Nat.reduceBneDiff, Nat.reduceLT, Nat.reduceLeDiff, Nat.reduceAdd, Nat.reduceMul, Nat.reduceSub, Nat.reduceEqDiff, reduceCtorEq, hrx]; exact rfl, ⟨hlt, fun i => ?_, fun i hi => ?_⟩, by omega⟩
            · rw [hnext]
              exact getD_app D _ (fun z => 0 ≤ z ∧ z ≤ 64) hd (by show 0 ≤ depTo _ _ _ + 1 ∧ depTo _ _ _ + 1 ≤ 64; omega) (by omega) i
            · rcases Nat.lt_or_ge i k with h' | h'
              · exact hno i h'
              · have : i = k := by omega
                subst this
                rw [htd]; exact decide_eq_false h
  · have e1 : ((k : Int) < l.length) = False := eq_false (by omega)
    (repeat' (first
    | exact trivial
    | (with_reducible first | refine awA ?_ | refine awB ?_ | refine awC ?_ | refine awD ?_ | refine awE ?_ | refine awF ?_ | refine awG ?_ | refine awH ?_ | refine awI ?_ | refine awJ ?_ | refine awK ?_ | refine awL ?_ | refine awM (by decide) ?_)
    | (refine aw_draw (id := 13) (t := (.node [0, 1, 2, 3, 4, 5, 6, 7, 8, 9, 10, 11, 12, 13] [])) (drR [7] [44, 49] []) mixed (by kernel_rfl) (by kernel_rfl) (fun _ _ h => h) ?_)
    | (refine at_done (by simp only [List.filterMap_cons, List.filterMap_nil, List.getElem?_toArray, List.getElem?_cons_zero, List.getElem?_cons_succ]; exact rfl) ?_) | (refine at_alt (by simp only [List.filterMap_cons, List.filterMap_nil, List.getElem?_toArray, List.getElem?_cons_zero, List.getElem?_cons_succ]; exact rfl) ?_) | refine qalt_normal ?_ | refine ats_cons ?_ ?_ | exact ats_nil
    | ((with_reducible first | refine awN (tyOf_ok _) [] ?_ | refine awO (tyOf_ok _) [] ?_ | refine awP (tyOf_ok _) [] ?_ | refine awQ ?_ | refine awR ?_ | refine awS ?_); intro r hr; simp only [go_sem, Nat.reduceBEq, Nat.reduceBneDiff, Nat.reduceLT, Nat.reduceLeDiff, Nat.reduceAdd, Nat.reduceMul, Nat.reduceSub, Nat.reduceEqDiff, reduceCtorEq, hw1, e1] at hr; subst hr; (first | refine awV ?_ ?_ | refine awW ?_ ?_ | refine endK ?_ ?_ | (refine condK (fun h => ?_) (fun h => ?_) <;> (try simp only [go_sem, reduceCtorEq] at h) <;> (try (exfalso; omega))))) | fail)) <;> (try omega)
    have hno' : (List.range l.length).find? (tooDeep l) = none := by
      rw [List.find?_range_eq_none]
      intro i hi
      simp [hno i (by omega)]
    show vF (0, 0) = vF (deepF l)
    rw [deepF, hno']
end Go.Proofs.Ytljfgohecmhchaa
end
section
namespace Go.Proofs.Ytljfgohecmhchaa
open Go.RowKit
set_option maxRecDepth 100000
set_option maxHeartbeats 4000000
theorem good_ty {kind at_ : Int} {pre : List PartM} {p : PartM} (h : good kind at_ pre p = true) : 0 ≤ p.ty ∧ p.ty < at_ := by
  unfold good at h
  split at h <;> simp only [Bool.and_eq_true, decide_eq_true_eq] at h <;> omega
theorem goodFrom_ty {kind at_ : Int} : ∀ (l pre : List PartM), goodFrom kind at_ pre l = true → ∀ p ∈ l, 0 ≤ p.ty ∧ p.ty < at_
  | [], _, _ => fun p hp => by cases hp
  | q :: l, pre, h => fun p hp => by
    simp only [goodFrom, Bool.and_eq_true] at h
    rcases List.mem_cons.1 hp with rfl | hp
    · exact good_ty h.1
    · exact goodFrom_ty l _ h.2 p hp
theorem rightOK_ty {t : TypeM} {k : Nat} (h : rightOK t k = true) : tyOK t k := by
  rw [rightOK, Bool.and_eq_true] at h
  obtain ⟨_, h⟩ := h
  split at h
  · rename_i hk
    simp only [Bool.and_eq_true, decide_eq_true_eq] at h
    refine ⟨fun h' => by omega, fun p hp => ?_⟩
    have : t.parts = [] := List.eq_nil_of_length_eq_zero (by omega)
    rw [this] at hp; cases hp
  · split at h
    · simp only [Bool.and_eq_true, decide_eq_true_eq] at h
      refine ⟨fun _ => h.1, fun p hp => ?_⟩
      have : t.parts = [] := List.eq_nil_of_length_eq_zero (by omega)
      rw [this] at hp; cases hp
    · split at h
      · rename_i h1 h2 h3
        simp only [Bool.and_eq_true, partsOK] at h
        exact ⟨fun h' => absurd h' h2, goodFrom_ty _ _ h.2.2⟩
      · cases h
def encR (r : RootM) : List AV := [vS r.name, vI r.ty]
def encRs (l : List RootM) : List (List AV) := l.map encR
theorem encRs_len (l : List RootM) : (encRs l).length = l.length := by simp [encRs]
theorem encRs_get {l : List RootM} {k : Nat} (h : k < l.length) : (encRs l)[k]? = some [vS l[k].name, vI l[k].ty] := by simp [encRs, encR, h]
def wrongType (ts : List TypeM) (k : Nat) : Bool := match ts[k]? with
  | some t => !rightOK t k
  | none => false
def wrongRoot (n : Nat) (rs : List RootM) (k : Nat) : Bool := match rs[k]? with
  | some r => !isName r.name || ((rs.take k).any fun q => decide (q.name = r.name)) || decide (r.ty < 0) || decide ((n : Int) ≤ r.ty) || decide (256 ≤ k)
  | none => false
def checkF (ts : List TypeM) (rs : List RootM) : Int × Int :=
  match (List.range ts.length).find? (wrongType ts) with
  | some k => (92, k)
  | none => if (deepF ts).1 ≠ 0 then deepF ts else
    match (List.range rs.length).find? (wrongRoot ts.length rs) with
    | some k => (92, (ts.length : Int) + k)
    | none => (0, 0)
def vSch (ts : List TypeM) (rs : List RootM) : AV := .agg [.lst 4 (encTs ts), .lst 2 (encRs rs)]
theorem find_none {n : Nat} {p : Nat → Bool} (h : ∀ i, i < n → p i = false) : (List.range n).find? p = none := by
  rw [List.find?_range_eq_none]
  intro i hi
  simp [h i hi]
theorem find_some {n k : Nat} {p : Nat → Bool} (hk : k < n) (h : ∀ i, i < k → p i = false) (hp : p k = true) : (List.range n).find? p = some k := by
  rw [List.find?_range_eq_some]
  exact ⟨hp, List.mem_range.2 hk, fun j hj => by simp [h j hj]⟩
theorem deepF_at (ts : List TypeM) : (deepF ts).1 = 0 ∨ (deepF ts).1 = 83 := by
  unfold deepF
  split
  · exact .inr rfl
  · exact .inl rfl
theorem check_any (ts : List TypeM) (rs : List RootM) (hts : ts.length ≤ 1000000000) (hrs : rs.length ≤ 1000000000) (hp : ∀ t ∈ ts, t.parts.length ≤ 1000000000) : PCall Try.prog 10 [vSch ts rs] (fun r => r = vF (checkF ts rs)) := by
  refine go_fn (tyOf_ok _) Try.func10 rfl rfl (by rw [Try.results10]) Try.ntmps10 rfl fun E => ?_
  (repeat' (first
    | exact trivial
    | (with_reducible first | refine awA ?_ | refine awB ?_ | refine awC ?_ | refine awD ?_ | refine awE ?_ | refine awF ?_ | refine awG ?_ | refine awH ?_ | refine awI ?_ | refine awJ ?_ | refine awK ?_ | refine awL ?_ | refine awM (by decide) ?_)
    | ((with_reducible first | refine awN (tyOf_ok _) [] ?_ | refine awO (tyOf_ok _) [] ?_ | refine awP (tyOf_ok _) [] ?_ | refine awQ ?_ | refine awR ?_ | refine awS ?_); intro r hr; simp only [go_sem, Nat.reduceBEq, Nat.reduceBneDiff, Nat.reduceLT, Nat.reduceLeDiff, Nat.reduceAdd, Nat.reduceMul, Nat.reduceSub, Nat.reduceEqDiff, reduceCtorEq, encTs_len, vSch] at hr; subst hr; (first | refine awV ?_ ?_ | refine awW ?_ ?_ | refine endK ?_ ?_ | (refine condK (fun h => ?_) (fun h => ?_) <;> (try simp only [go_sem, reduceCtorEq] at h) <;> (try (exfalso; omega))))) | fail)) <;> (try omega)
  refine go_loop [1, 2, 10, 11, 12] [1, 2] (fun k : Nat => ⟨[(1, true, .ptr 1 1 0 0), (2, true, .ptr 1 2 0 0), (10, true, .lst 4 (encTs ts)), (11, true, vI ts.length), (12, true, vI k)],
    [(1, .var [.lst 4 (encTs ts), .lst 2 (encRs rs)]), (2, .var [vI 0, vI 0])]⟩)
    (fun k => k ≤ ts.length ∧ ∀ i, i < k → wrongType ts i = false) (fun k => ts.length - k) 0 (by simp only [go_sem, Nat.reduceBEq, Nat.reduceBneDiff, Nat.reduceLT, Nat.reduceLeDiff, Nat.reduceAdd, Nat.reduceMul, Nat.reduceSub, Nat.reduceEqDiff, reduceCtorEq, encTs_len]; exact rfl) ⟨Nat.zero_le _, fun i h => by omega⟩ ?_
  intro k ⟨hk, hno⟩
  have hw1 := wrap_i64 (n := (k : Int) + 1) (by omega)
  by_cases hlt : k < ts.length
  · have e1 : ((k : Int) < ts.length) = True := eq_true (by omega)
    have g1 := encTs_get hlt
    have hpl := hp _ (List.getElem_mem hlt)
    have hwt : wrongType ts k = !rightOK ts[k] k := by rw [wrongType, List.getElem?_eq_getElem hlt]
    (repeat' (first
    | exact trivial
    | (with_reducible first | refine awA ?_ | refine awB ?_ | refine awC ?_ | refine awD ?_ | refine awE ?_ | refine awF ?_ | refine awG ?_ | refine awH ?_ | refine awI ?_ | refine awJ ?_ | refine awK ?_ | refine awL ?_ | refine awM (by decide) ?_)
    | ((with_reducible first | refine awN (tyOf_ok _) [] ?_ | refine awO (tyOf_ok _) [] ?_ | refine awP (tyOf_ok _) [] ?_ | refine awQ ?_ | refine awR ?_ | refine awS ?_); intro r hr; simp only [go_sem, Nat.reduceBEq, Nat.reduceBneDiff, Nat.reduceLT, Nat.reduceLeDiff, Nat.reduceAdd, Nat.reduceMul, Nat.reduceSub, Nat.reduceEqDiff, reduceCtorEq, hw1, e1, g1, encTs_len] at hr; subst hr; (first | refine caA (fun _ => right_any ts[k] k hpl) rfl ?_ ?_ ?_ | refine awV ?_ ?_ | refine awW ?_ ?_ | refine endK ?_ ?_ | (refine condK (fun h => ?_) (fun h => ?_) <;> (try simp only [go_sem, reduceCtorEq] at h) <;> (try (exfalso; omega))))) | fail)) <;> (try omega)
    · show vF (92, (k : Int)) = vF (checkF ts rs)
      rw [checkF, find_some hlt hno (by rw [hwt, h]; rfl)]
    · refine ⟨k + 1, by simp only [go_sem, Nat.reduceBEq, Nat.reduceBneDiff, Nat.reduceLT, Nat.reduceLeDiff, Nat.reduceAdd, Nat.reduceMul, Nat.reduceSub, Nat.reduceEqDiff, reduceCtorEq]; exact rfl, ⟨hlt, fun i hi => ?_⟩, by omega⟩
      rcases Nat.lt_or_ge i k with h' | h'
      · exact hno i h'
      · have : i = k := by omega
        subst this
        rw [hwt, h]; rfl
  · have e1 : ((k : Int) < ts.length) = False := eq_false (by omega)
    have hall : ∀ (k : Nat) (h : k < ts.length), tyOK ts[k] k := fun k h => rightOK_ty (by
      have := hno k (by omega)
      rw [wrongType, List.getElem?_eq_getElem h] at this
      simpa using this)
    have hnone := find_none fun i (hi : i < ts.length) => hno i (by omega)
    (repeat' (first
    | exact trivial
    | (with_reducible first | refine awA ?_ | refine awB ?_ | refine awC ?_ | refine awD ?_ | refine awE ?_ | refine awF ?_ | refine awG ?_ | refine awH ?_ | refine awI ?_ | refine awJ ?_ | refine awK ?_ | refine awL ?_ | refine awM (by decide) ?_)
    | ((with_reducible first | refine awN (tyOf_ok _) [] ?_ | refine awO (tyOf_ok _) [] ?_ | refine awP (tyOf_ok _) [] ?_ | refine awQ ?_ | refine awR ?_ | refine awS ?_); intro r hr; simp only [go_sem, Nat.reduceBEq, Nat.reduceBneDiff, Nat.reduceLT, Nat.reduceLeDiff, Nat.reduceAdd, Nat.reduceMul, Nat.reduceSub, Nat.reduceEqDiff, reduceCtorEq, hw1, e1, vF, encTs_len, encRs_len] at hr; subst hr; (first | refine caA (fun _ => deep_any ts hts hp hall) rfl ?_ ?_ ?_ | refine awV ?_ ?_ | refine awW ?_ ?_ | refine endK ?_ ?_ | (refine condK (fun h => ?_) (fun h => ?_) <;> (try simp only [go_sem, reduceCtorEq] at h) <;> (try (exfalso; omega))))) | fail)) <;> (try omega)
    · have hc : checkF ts rs = deepF ts := by rw [checkF, hnone]; exact if_pos h
      rw [hc]; exact rfl
    have hc : checkF ts rs = match (List.range rs.length).find? (wrongRoot ts.length rs) with
      | some k => (92, (ts.length : Int) + k)
      | none => (0, 0) := by rw [checkF, hnone]; exact if_neg (fun g => g h)
    refine go_loop [1, 2, 6, 33, 34, 35] [1, 2, 31] (fun x : Nat × List (AV × AV) => ⟨[(1, true, .ptr 1 1 0 0), (2, true, .ptr 1 2 0 0), (6, true, .map 31), (33, true, .lst 2 (encRs rs)), (34, true, vI rs.length), (35, true, vI x.1)],
      [(1, .var [.lst 4 (encTs ts), .lst 2 (encRs rs)]), (2, .var [vI 0, vI 0]), (31, .mapo x.2)]⟩)
      (fun x => x.1 ≤ rs.length ∧ x.2.map (·.1) = (rs.take x.1).map (fun r => vS r.name) ∧ ∀ i, i < x.1 → wrongRoot ts.length rs i = false) (fun x => rs.length - x.1) (0, []) (by simp only [go_sem, Nat.reduceBEq, Nat.reduceBneDiff, Nat.reduceLT, Nat.reduceLeDiff, Nat.reduceAdd, Nat.reduceMul, Nat.reduceSub, Nat.reduceEqDiff, reduceCtorEq, encRs_len]; exact rfl) ⟨Nat.zero_le _, rfl, fun i h => by omega⟩ ?_
    clear hno hw1 hlt e1 hk k
    intro ⟨k, es⟩ ⟨hk, hes, hno⟩
    simp only at hk hes hno ⊢
    have hw1 := wrap_i64 (n := (k : Int) + 1) (by omega)
    have hw4 := wrap_i64 (n := (ts.length : Int) + k) (by omega)
    by_cases hlt : k < rs.length
    · have e1 : ((k : Int) < rs.length) = True := eq_true (by omega)
      have g1 := encRs_get hlt
      have hany := any_keys (fun r : RootM => vS r.name) (.string rs[k].name) (fun q => decide (q.name = rs[k].name)) (fun a => by simp only [keyEq]; exact decide_eq_decide.2 eq_comm) es (rs.take k) hes
      have hel : es.length = k := by have := congrArg List.length hes; simpa [Nat.min_eq_left hk] using this
      have hml := mput_len (v := .v (.int .i64 k)) hany
      generalize hb : ((rs.take k).any fun q => decide (q.name = rs[k].name)) = b at hany hml
      have hwr : wrongRoot ts.length rs k = (!isName rs[k].name || b || decide (rs[k].ty < 0) || decide ((ts.length : Int) ≤ rs[k].ty) || decide (256 ≤ k)) := by rw [wrongRoot, List.getElem?_eq_getElem hlt, ← hb]
      (repeat' (first
    | exact trivial
    | (with_reducible first | refine awA ?_ | refine awB ?_ | refine awC ?_ | refine awD ?_ | refine awE ?_ | refine awF ?_ | refine awG ?_ | refine awH ?_ | refine awI ?_ | refine awJ ?_ | refine awK ?_ | refine awL ?_ | refine awM (by decide) ?_)
    | ((with_reducible first | refine awN (tyOf_ok _) [] ?_ | refine awO (tyOf_ok _) [] ?_ | refine awP (tyOf_ok _) [] ?_ | refine awQ ?_ | refine awR ?_ | refine awS ?_); intro r hr; simp only [go_sem, Nat.reduceBEq, Nat.reduceBneDiff, Nat.reduceLT, Nat.reduceLeDiff, Nat.reduceAdd, Nat.reduceMul, Nat.reduceSub, Nat.reduceEqDiff, reduceCtorEq, hw1, hw4, e1, g1, encTs_len, encRs_len] at hr; subst hr; (first | refine caA (fun _ => name_any rs[k].name) rfl ?_ ?_ ?_ | refine awV ?_ ?_ | refine awW ?_ ?_ | refine endK ?_ ?_ | (refine condK (fun h => ?_) (fun h => ?_) <;> (try simp only [go_sem, reduceCtorEq] at h) <;> (try (exfalso; omega))))) | fail)) <;> (try omega)
      · intro e he
        have : e.1 ∈ es.map (·.1) := List.mem_map_of_mem he
        rw [hes] at this
        obtain ⟨p, _, hp⟩ := List.mem_map.1 this
        rw [← hp]
      · have : wrongRoot ts.length rs k = true := by
          rw [hwr]
          rcases h with (((h | h) | h) | h) | h
          · simp [h]
          · have : b = true := by
              rcases Bool.eq_false_or_eq_true b with hb' | hb'
              · exact hb'
              · rw [hml, hb'] at h; simp at h; omega
            simp [this]
          · simp [h]
          · simp [h]
          · have : 256 ≤ k := by omega
            simp [this]
        show vF (92, (ts.length : Int) + k) = vF (checkF ts rs)
        rw [hc, find_some hlt hno this]
      · have hbf : b = false := by
          rcases Bool.eq_false_or_eq_true b with hb' | hb'
          · rw [hml, hb'] at h; simp at h; omega
          · exact hb'
        rw [hbf] at hany
        refine ⟨(k + 1, mput (.string rs[k].name) (.v (.int .i64 k)) es), by simp only [go_sem, Nat.reduceBEq, Nat.reduceBneDiff, Nat.reduceLT, Nat.reduceLeDiff, Nat.reduceAdd, Nat.reduceMul, Nat.reduceSub, Nat.reduceEqDiff, reduceCtorEq]; exact rfl, ⟨hlt, ?_, fun i hi => ?_⟩, by simp only; omega⟩
        · rw [(mput_any _ _ _).2 hany, List.map_append, hes, List.take_succ_eq_append_getElem hlt, List.map_append]; rfl
        · rcases Nat.lt_or_ge i k with h' | h'
          · exact hno i h'
          · have : i = k := by simp only at hi; omega
            subst this
            rw [hwr, hbf, h.1.1.1.1, decide_eq_false (by omega), decide_eq_false (by omega), decide_eq_false (by omega)]; rfl
    · have e1 : ((k : Int) < rs.length) = False := eq_false (by omega)
      (repeat' (first
    | exact trivial
    | (with_reducible first | refine awA ?_ | refine awB ?_ | refine awC ?_ | refine awD ?_ | refine awE ?_ | refine awF ?_ | refine awG ?_ | refine awH ?_ | refine awI ?_ | refine awJ ?_ | refine awK ?_ | refine awL ?_ | refine awM (by decide) ?_)
    | ((with_reducible first | refine awN (tyOf_ok _) [] ?_ | refine awO (tyOf_ok _) [] ?_ | refine awP (tyOf_ok _) [] ?_ | refine awQ ?_ | refine awR ?_ | refine awS ?_); intro r hr; simp only [go_sem, Nat.reduceBEq, Nat.reduceBneDiff, Nat.reduceLT, Nat.reduceLeDiff, Nat.reduceAdd, Nat.reduceMul, Nat.reduceSub, Nat.reduceEqDiff, reduceCtorEq, hw1, e1] at hr; subst hr; (first | refine awV ?_ ?_ | refine awW ?_ ?_ | refine endK ?_ ?_ | (refine condK (fun h => ?_) (fun h => ?_) <;> (try simp only [go_sem, reduceCtorEq] at h) <;> (try (exfalso; omega))))) | fail)) <;> (try omega)
      rw [hc, find_none fun i (hi : i < rs.length) => hno i (by omega)]
      exact rfl
end Go.Proofs.Ytljfgohecmhchaa
end
