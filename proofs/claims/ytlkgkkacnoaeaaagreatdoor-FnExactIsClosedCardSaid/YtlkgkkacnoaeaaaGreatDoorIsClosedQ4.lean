/- Texts of this proof, joined: DT, Shelf, LCompare, SortH, SortS, LAtoi, LItoa, Ext, Dp0, Dp1, Dp2, Dp3, Dp5, Dp6, Dp8. What each holds is said at its theorems. -/
import Derived.Test.YtlkgkkacnoaeaaaGreatDoorIsClosedQ3
import Derived.Test.YtlkgkkacnoaeaaaGreatDoorIsClosedQ1
import Derived.Test.YtlkgkkacnoaeaaaGreatDoorProg
import Derived.Lib.LaidTab
import Derived.Lib.ItoaNum
import Derived.Shelf.Small.Strs
import Derived.Shelf.Strconv.Atoi
import Derived.Shelf.Strconv.Itoa0
import Derived.Shelf.Strconv.Itoa1
import Derived.Shelf.LaysM
import Derived.Shelf.Strconv.Itoa2
import Derived.Shelf.Strconv.Itoa3
import Derived.Shelf.Strconv.AtoiErrFast
import Derived.Shelf.Strconv.ParseIntEmpty
import Derived.Shelf.Strconv.AtoiFail
import Derived.Shelf.Strconv.Clone
import Derived.Shelf.Strconv.SyntaxError
import Derived.Shelf.LaysC
import Derived.Shelf.Strconv.ToError
import Derived.Shelf.Strconv.AtoiErr
import Derived.Shelf.Strconv.ErrVar
import Derived.Shelf.Sort.Plain
import Derived.Shelf.Slices.In.SortNone
import Derived.Shelf.Slices.In.SortNone2
import Derived.Lib.AtoiErrMem
import Derived.Lib.AppendIntMem
import Derived.Lib.ItoaLen
set_option linter.unusedSimpArgs false
set_option linter.unusedVariables false
namespace Go.Proofs.YtlkgkkacnoaeaaaGreatDoor
open Go.RowKit
def ttL : List (Nat × TI) := [
  (2, .atom (.c (.int .i64 0))),
  (3, .atom (.c (.int .i64 0))),
  (4, .atom (.c (.bool false))),
  (5, .atom (.c (.int .u8 0))),
  (9, .atom (.c (.str ⟨#[]⟩))),
  (12, .atom (.c (.int .u64 0))),
  (14, .strct [⟨0, 1, false⟩, ⟨1, 1, false⟩] 2 [.c (.str ⟨#[]⟩), .c (.int .u64 0)]),
  (20, .ifc),
  (21, .atom (.c (.int .i32 0))),
  (22, .slice 42 4 72 [.c (.str ⟨#[]⟩), .c (.int .i64 0), .nil 112 5, .nil 115 3]),
  (23, .slice 46 2 40 [.c (.str ⟨#[]⟩), .nil 9 1]),
  (27, .slice 52 4 72 [.c (.str ⟨#[]⟩), .c (.int .i64 0), .nil 99 5, .nil 62 3]),
  (29, .slice 57 2 40 [.c (.str ⟨#[]⟩), .nil 9 1]),
  (39, .slice 112 5 80 [.c (.int .i64 0), .c (.str ⟨#[]⟩), .nil 9 1, .c (.str ⟨#[]⟩), .c (.str ⟨#[]⟩)]),
  (40, .slice 115 3 48 [.c (.int .i64 0), .c (.str ⟨#[]⟩), .nil 9 1]),
  (42, .strct [⟨0, 1, false⟩, ⟨1, 1, false⟩, ⟨2, 1, false⟩, ⟨3, 1, false⟩] 4 [.c (.str ⟨#[]⟩), .c (.int .i64 0), .nil 112 5, .nil 115 3]),
  (44, .slice 9 1 16 [.c (.str ⟨#[]⟩)]),
  (46, .strct [⟨0, 1, false⟩, ⟨1, 1, false⟩] 2 [.c (.str ⟨#[]⟩), .nil 9 1]),
  (47, .slice 56 3 64 [.c (.str ⟨#[]⟩), .nil 57 2, .nil 119 2]),
  (49, .slice 99 5 80 [.c (.int .i64 0), .c (.str ⟨#[]⟩), .nil 9 1, .c (.str ⟨#[]⟩), .c (.str ⟨#[]⟩)]),
  (50, .slice 62 3 48 [.c (.int .i64 0), .c (.str ⟨#[]⟩), .nil 9 1]),
  (52, .strct [⟨0, 1, false⟩, ⟨1, 1, false⟩, ⟨2, 1, false⟩, ⟨3, 1, false⟩] 4 [.c (.str ⟨#[]⟩), .c (.int .i64 0), .nil 99 5, .nil 62 3]),
  (54, .slice 119 2 32 [.c (.str ⟨#[]⟩), .c (.str ⟨#[]⟩)]),
  (56, .strct [⟨0, 1, false⟩, ⟨1, 1, false⟩, ⟨2, 1, false⟩] 3 [.c (.str ⟨#[]⟩), .nil 57 2, .nil 119 2]),
  (57, .strct [⟨0, 1, false⟩, ⟨1, 1, false⟩] 2 [.c (.str ⟨#[]⟩), .nil 9 1]),
  (60, .strct [⟨0, 1, false⟩, ⟨1, 1, false⟩] 2 [.c (.str ⟨#[]⟩), .nil 9 1]),
  (62, .strct [⟨0, 1, false⟩, ⟨1, 2, true⟩] 3 [.c (.int .i64 0), .c (.str ⟨#[]⟩), .nil 9 1]),
  (72, .slice 76 2 48 [.nil 57 2, .nil 119 2]),
  (76, .strct [⟨0, 1, false⟩, ⟨1, 1, false⟩] 2 [.nil 57 2, .nil 119 2]),
  (99, .strct [⟨0, 1, false⟩, ⟨1, 2, true⟩, ⟨3, 1, false⟩, ⟨4, 1, false⟩] 5 [.c (.int .i64 0), .c (.str ⟨#[]⟩), .nil 9 1, .c (.str ⟨#[]⟩), .c (.str ⟨#[]⟩)]),
  (103, .map .str .bool),
  (108, .slice 5 1 1 [.c (.int .u8 0)]),
  (110, .strct [⟨0, 1, false⟩, ⟨1, 1, false⟩] 2 [.c (.str ⟨#[]⟩), .nil 9 1]),
  (112, .strct [⟨0, 1, false⟩, ⟨1, 2, true⟩, ⟨3, 1, false⟩, ⟨4, 1, false⟩] 5 [.c (.int .i64 0), .c (.str ⟨#[]⟩), .nil 9 1, .c (.str ⟨#[]⟩), .c (.str ⟨#[]⟩)]),
  (115, .strct [⟨0, 1, false⟩, ⟨1, 2, true⟩] 3 [.c (.int .i64 0), .c (.str ⟨#[]⟩), .nil 9 1]),
  (119, .strct [⟨0, 1, false⟩, ⟨1, 1, false⟩] 2 [.c (.str ⟨#[]⟩), .c (.str ⟨#[]⟩)]),
  (148, .ifc),
  (149, .ifc),
  (155, .atom (.c (.int .u64 0))),
  (166, .atom (.c (.int .u32 0))),
  (168, .atom (.c (.int .u64 0))),
  (195, .strct [⟨0, 1, false⟩] 1 [.c (.str ⟨#[]⟩)])]
def tt (t : Nat) : Option TI := look ttL t
theorem htt : ∀ t i, tt t = some i → TOk Tryz.prog t i := tts_ok ttL (by kernel_rfl)
theorem hmix : Tryz.prog.follows .mixedOrders = true := by kernel_rfl
def tabL : List (String × (Array Value → Prop)) := [("internal/strconv.uint64pow10", fun cs => cs = (Lib.pow10Tab.map fun z => Value.int .u64 z).toArray), ("strconv.ErrSyntax", fun cs => ∃ tp p, cs = #[.iface tp p])]
def J0 : World → Prop := LaidJ Tryz.prog tabL
def JF0 : Nat → Prop := LaidF Tryz.prog tabL
theorem hJ0 : JOk J0 JF0 := laid_ok _ _
theorem j0_pow (w : World) (h : J0 w) : Lib.TabIs Tryz.prog w "internal/strconv.uint64pow10" .u64 Lib.pow10Tab := by
  obtain ⟨cs, h1, h2⟩ := h _ (List.mem_cons_self ..)
  rw [h2] at h1
  exact h1
theorem j0_err (w : World) (h : J0 w) : ∃ tp p, w.var? Tryz.prog "strconv.ErrSyntax" = some #[.iface tp p] := by
  obtain ⟨cs, h1, tp, p, h2⟩ := h ("strconv.ErrSyntax", fun cs => ∃ tp p, cs = #[.iface tp p]) (by simp [tabL])
  rw [h2] at h1
  exact ⟨tp, p, h1⟩
def hdL : List (Nat × Nat) := [(14, 2), (20, 2), (30, 2), (38, 2), (42, 2), (43, 2), (53, 2), (81, 3), (146, 1)]
def hlook : List (Nat × Nat) → Nat → Nat
  | [], _ => 0
  | p :: r, f => match Nat.beq p.1 f with | true => p.2 | false => hlook r f
def hds (f : FuncId) : Nat := hlook hdL f
theorem hd_7 : (SC Tryz.prog J0 JF0 hds).hd 7 = 0 := _root_.id (by kernel_rfl)
theorem hd_10 : (SC Tryz.prog J0 JF0 hds).hd 10 = 0 := _root_.id (by kernel_rfl)
theorem hd_14 : (SC Tryz.prog J0 JF0 hds).hd 14 = 2 := _root_.id (by kernel_rfl)
theorem hd_20 : (SC Tryz.prog J0 JF0 hds).hd 20 = 2 := _root_.id (by kernel_rfl)
theorem hd_21 : (SC Tryz.prog J0 JF0 hds).hd 21 = 0 := _root_.id (by kernel_rfl)
theorem hd_22 : (SC Tryz.prog J0 JF0 hds).hd 22 = 0 := _root_.id (by kernel_rfl)
theorem hd_23 : (SC Tryz.prog J0 JF0 hds).hd 23 = 0 := _root_.id (by kernel_rfl)
theorem hd_24 : (SC Tryz.prog J0 JF0 hds).hd 24 = 0 := _root_.id (by kernel_rfl)
theorem hd_25 : (SC Tryz.prog J0 JF0 hds).hd 25 = 0 := _root_.id (by kernel_rfl)
theorem hd_28 : (SC Tryz.prog J0 JF0 hds).hd 28 = 0 := _root_.id (by kernel_rfl)
theorem hd_29 : (SC Tryz.prog J0 JF0 hds).hd 29 = 0 := _root_.id (by kernel_rfl)
theorem hd_30 : (SC Tryz.prog J0 JF0 hds).hd 30 = 2 := _root_.id (by kernel_rfl)
theorem hd_31 : (SC Tryz.prog J0 JF0 hds).hd 31 = 0 := _root_.id (by kernel_rfl)
theorem hd_32 : (SC Tryz.prog J0 JF0 hds).hd 32 = 0 := _root_.id (by kernel_rfl)
theorem hd_35 : (SC Tryz.prog J0 JF0 hds).hd 35 = 0 := _root_.id (by kernel_rfl)
theorem hd_36 : (SC Tryz.prog J0 JF0 hds).hd 36 = 0 := _root_.id (by kernel_rfl)
theorem hd_37 : (SC Tryz.prog J0 JF0 hds).hd 37 = 0 := _root_.id (by kernel_rfl)
theorem hd_38 : (SC Tryz.prog J0 JF0 hds).hd 38 = 2 := _root_.id (by kernel_rfl)
theorem hd_39 : (SC Tryz.prog J0 JF0 hds).hd 39 = 0 := _root_.id (by kernel_rfl)
theorem hd_40 : (SC Tryz.prog J0 JF0 hds).hd 40 = 0 := _root_.id (by kernel_rfl)
theorem hd_41 : (SC Tryz.prog J0 JF0 hds).hd 41 = 0 := _root_.id (by kernel_rfl)
theorem hd_42 : (SC Tryz.prog J0 JF0 hds).hd 42 = 2 := _root_.id (by kernel_rfl)
theorem hd_43 : (SC Tryz.prog J0 JF0 hds).hd 43 = 2 := _root_.id (by kernel_rfl)
theorem hd_44 : (SC Tryz.prog J0 JF0 hds).hd 44 = 0 := _root_.id (by kernel_rfl)
theorem hd_53 : (SC Tryz.prog J0 JF0 hds).hd 53 = 2 := _root_.id (by kernel_rfl)
theorem hd_54 : (SC Tryz.prog J0 JF0 hds).hd 54 = 0 := _root_.id (by kernel_rfl)
theorem hd_55 : (SC Tryz.prog J0 JF0 hds).hd 55 = 0 := _root_.id (by kernel_rfl)
theorem hd_56 : (SC Tryz.prog J0 JF0 hds).hd 56 = 0 := _root_.id (by kernel_rfl)
theorem hd_57 : (SC Tryz.prog J0 JF0 hds).hd 57 = 0 := _root_.id (by kernel_rfl)
theorem hd_58 : (SC Tryz.prog J0 JF0 hds).hd 58 = 0 := _root_.id (by kernel_rfl)
theorem hd_59 : (SC Tryz.prog J0 JF0 hds).hd 59 = 0 := _root_.id (by kernel_rfl)
theorem hd_60 : (SC Tryz.prog J0 JF0 hds).hd 60 = 0 := _root_.id (by kernel_rfl)
theorem hd_64 : (SC Tryz.prog J0 JF0 hds).hd 64 = 0 := _root_.id (by kernel_rfl)
theorem hd_65 : (SC Tryz.prog J0 JF0 hds).hd 65 = 0 := _root_.id (by kernel_rfl)
theorem hd_66 : (SC Tryz.prog J0 JF0 hds).hd 66 = 0 := _root_.id (by kernel_rfl)
theorem hd_67 : (SC Tryz.prog J0 JF0 hds).hd 67 = 0 := _root_.id (by kernel_rfl)
theorem hd_68 : (SC Tryz.prog J0 JF0 hds).hd 68 = 0 := _root_.id (by kernel_rfl)
theorem hd_69 : (SC Tryz.prog J0 JF0 hds).hd 69 = 0 := _root_.id (by kernel_rfl)
theorem hd_70 : (SC Tryz.prog J0 JF0 hds).hd 70 = 0 := _root_.id (by kernel_rfl)
theorem hd_71 : (SC Tryz.prog J0 JF0 hds).hd 71 = 0 := _root_.id (by kernel_rfl)
theorem hd_75 : (SC Tryz.prog J0 JF0 hds).hd 75 = 0 := _root_.id (by kernel_rfl)
theorem hd_76 : (SC Tryz.prog J0 JF0 hds).hd 76 = 0 := _root_.id (by kernel_rfl)
theorem hd_77 : (SC Tryz.prog J0 JF0 hds).hd 77 = 0 := _root_.id (by kernel_rfl)
theorem hd_78 : (SC Tryz.prog J0 JF0 hds).hd 78 = 0 := _root_.id (by kernel_rfl)
theorem hd_79 : (SC Tryz.prog J0 JF0 hds).hd 79 = 0 := _root_.id (by kernel_rfl)
theorem hd_80 : (SC Tryz.prog J0 JF0 hds).hd 80 = 0 := _root_.id (by kernel_rfl)
theorem hd_81 : (SC Tryz.prog J0 JF0 hds).hd 81 = 3 := _root_.id (by kernel_rfl)
theorem hd_82 : (SC Tryz.prog J0 JF0 hds).hd 82 = 0 := _root_.id (by kernel_rfl)
theorem hd_83 : (SC Tryz.prog J0 JF0 hds).hd 83 = 0 := _root_.id (by kernel_rfl)
theorem hd_84 : (SC Tryz.prog J0 JF0 hds).hd 84 = 0 := _root_.id (by kernel_rfl)
theorem hd_85 : (SC Tryz.prog J0 JF0 hds).hd 85 = 0 := _root_.id (by kernel_rfl)
theorem hd_88 : (SC Tryz.prog J0 JF0 hds).hd 88 = 0 := _root_.id (by kernel_rfl)
theorem hd_89 : (SC Tryz.prog J0 JF0 hds).hd 89 = 0 := _root_.id (by kernel_rfl)
theorem hd_90 : (SC Tryz.prog J0 JF0 hds).hd 90 = 0 := _root_.id (by kernel_rfl)
theorem hd_91 : (SC Tryz.prog J0 JF0 hds).hd 91 = 0 := _root_.id (by kernel_rfl)
theorem hd_92 : (SC Tryz.prog J0 JF0 hds).hd 92 = 0 := _root_.id (by kernel_rfl)
theorem hd_93 : (SC Tryz.prog J0 JF0 hds).hd 93 = 0 := _root_.id (by kernel_rfl)
theorem hd_94 : (SC Tryz.prog J0 JF0 hds).hd 94 = 0 := _root_.id (by kernel_rfl)
theorem hd_95 : (SC Tryz.prog J0 JF0 hds).hd 95 = 0 := _root_.id (by kernel_rfl)
theorem hd_96 : (SC Tryz.prog J0 JF0 hds).hd 96 = 0 := _root_.id (by kernel_rfl)
theorem hd_97 : (SC Tryz.prog J0 JF0 hds).hd 97 = 0 := _root_.id (by kernel_rfl)
theorem hd_98 : (SC Tryz.prog J0 JF0 hds).hd 98 = 0 := _root_.id (by kernel_rfl)
theorem hd_99 : (SC Tryz.prog J0 JF0 hds).hd 99 = 0 := _root_.id (by kernel_rfl)
theorem hd_100 : (SC Tryz.prog J0 JF0 hds).hd 100 = 0 := _root_.id (by kernel_rfl)
theorem hd_101 : (SC Tryz.prog J0 JF0 hds).hd 101 = 0 := _root_.id (by kernel_rfl)
theorem hd_102 : (SC Tryz.prog J0 JF0 hds).hd 102 = 0 := _root_.id (by kernel_rfl)
theorem hd_103 : (SC Tryz.prog J0 JF0 hds).hd 103 = 0 := _root_.id (by kernel_rfl)
theorem hd_104 : (SC Tryz.prog J0 JF0 hds).hd 104 = 0 := _root_.id (by kernel_rfl)
theorem hd_105 : (SC Tryz.prog J0 JF0 hds).hd 105 = 0 := _root_.id (by kernel_rfl)
theorem hd_108 : (SC Tryz.prog J0 JF0 hds).hd 108 = 0 := _root_.id (by kernel_rfl)
theorem hd_109 : (SC Tryz.prog J0 JF0 hds).hd 109 = 0 := _root_.id (by kernel_rfl)
theorem hd_110 : (SC Tryz.prog J0 JF0 hds).hd 110 = 0 := _root_.id (by kernel_rfl)
theorem hd_111 : (SC Tryz.prog J0 JF0 hds).hd 111 = 0 := _root_.id (by kernel_rfl)
theorem hd_112 : (SC Tryz.prog J0 JF0 hds).hd 112 = 0 := _root_.id (by kernel_rfl)
theorem hd_113 : (SC Tryz.prog J0 JF0 hds).hd 113 = 0 := _root_.id (by kernel_rfl)
theorem hd_114 : (SC Tryz.prog J0 JF0 hds).hd 114 = 0 := _root_.id (by kernel_rfl)
theorem hd_115 : (SC Tryz.prog J0 JF0 hds).hd 115 = 0 := _root_.id (by kernel_rfl)
theorem hd_116 : (SC Tryz.prog J0 JF0 hds).hd 116 = 0 := _root_.id (by kernel_rfl)
theorem hd_117 : (SC Tryz.prog J0 JF0 hds).hd 117 = 0 := _root_.id (by kernel_rfl)
theorem hd_118 : (SC Tryz.prog J0 JF0 hds).hd 118 = 0 := _root_.id (by kernel_rfl)
theorem hd_119 : (SC Tryz.prog J0 JF0 hds).hd 119 = 0 := _root_.id (by kernel_rfl)
theorem hd_120 : (SC Tryz.prog J0 JF0 hds).hd 120 = 0 := _root_.id (by kernel_rfl)
theorem hd_121 : (SC Tryz.prog J0 JF0 hds).hd 121 = 0 := _root_.id (by kernel_rfl)
theorem hd_122 : (SC Tryz.prog J0 JF0 hds).hd 122 = 0 := _root_.id (by kernel_rfl)
theorem hd_123 : (SC Tryz.prog J0 JF0 hds).hd 123 = 0 := _root_.id (by kernel_rfl)
theorem hd_126 : (SC Tryz.prog J0 JF0 hds).hd 126 = 0 := _root_.id (by kernel_rfl)
theorem hd_127 : (SC Tryz.prog J0 JF0 hds).hd 127 = 0 := _root_.id (by kernel_rfl)
theorem hd_128 : (SC Tryz.prog J0 JF0 hds).hd 128 = 0 := _root_.id (by kernel_rfl)
theorem hd_129 : (SC Tryz.prog J0 JF0 hds).hd 129 = 0 := _root_.id (by kernel_rfl)
theorem hd_130 : (SC Tryz.prog J0 JF0 hds).hd 130 = 0 := _root_.id (by kernel_rfl)
theorem hd_131 : (SC Tryz.prog J0 JF0 hds).hd 131 = 0 := _root_.id (by kernel_rfl)
theorem hd_132 : (SC Tryz.prog J0 JF0 hds).hd 132 = 0 := _root_.id (by kernel_rfl)
theorem hd_133 : (SC Tryz.prog J0 JF0 hds).hd 133 = 0 := _root_.id (by kernel_rfl)
theorem hd_134 : (SC Tryz.prog J0 JF0 hds).hd 134 = 0 := _root_.id (by kernel_rfl)
theorem hd_135 : (SC Tryz.prog J0 JF0 hds).hd 135 = 0 := _root_.id (by kernel_rfl)
theorem hd_136 : (SC Tryz.prog J0 JF0 hds).hd 136 = 0 := _root_.id (by kernel_rfl)
theorem hd_137 : (SC Tryz.prog J0 JF0 hds).hd 137 = 0 := _root_.id (by kernel_rfl)
theorem hd_138 : (SC Tryz.prog J0 JF0 hds).hd 138 = 0 := _root_.id (by kernel_rfl)
theorem hd_139 : (SC Tryz.prog J0 JF0 hds).hd 139 = 0 := _root_.id (by kernel_rfl)
theorem hd_140 : (SC Tryz.prog J0 JF0 hds).hd 140 = 0 := _root_.id (by kernel_rfl)
theorem hd_142 : (SC Tryz.prog J0 JF0 hds).hd 142 = 0 := _root_.id (by kernel_rfl)
theorem hd_144 : (SC Tryz.prog J0 JF0 hds).hd 144 = 0 := _root_.id (by kernel_rfl)
theorem hd_145 : (SC Tryz.prog J0 JF0 hds).hd 145 = 0 := _root_.id (by kernel_rfl)
theorem hd_146 : (SC Tryz.prog J0 JF0 hds).hd 146 = 1 := _root_.id (by kernel_rfl)
theorem hd_148 : (SC Tryz.prog J0 JF0 hds).hd 148 = 0 := _root_.id (by kernel_rfl)
theorem hd_150 : (SC Tryz.prog J0 JF0 hds).hd 150 = 0 := _root_.id (by kernel_rfl)
theorem hd_151 : (SC Tryz.prog J0 JF0 hds).hd 151 = 0 := _root_.id (by kernel_rfl)
theorem hd_152 : (SC Tryz.prog J0 JF0 hds).hd 152 = 0 := _root_.id (by kernel_rfl)
theorem hd_153 : (SC Tryz.prog J0 JF0 hds).hd 153 = 0 := _root_.id (by kernel_rfl)
theorem hd_154 : (SC Tryz.prog J0 JF0 hds).hd 154 = 0 := _root_.id (by kernel_rfl)
theorem hd_155 : (SC Tryz.prog J0 JF0 hds).hd 155 = 0 := _root_.id (by kernel_rfl)
theorem hd_156 : (SC Tryz.prog J0 JF0 hds).hd 156 = 0 := _root_.id (by kernel_rfl)
theorem hd_159 : (SC Tryz.prog J0 JF0 hds).hd 159 = 0 := _root_.id (by kernel_rfl)
theorem hd_160 : (SC Tryz.prog J0 JF0 hds).hd 160 = 0 := _root_.id (by kernel_rfl)
theorem hd_161 : (SC Tryz.prog J0 JF0 hds).hd 161 = 0 := _root_.id (by kernel_rfl)
theorem hd_162 : (SC Tryz.prog J0 JF0 hds).hd 162 = 0 := _root_.id (by kernel_rfl)
theorem hd_167 : (SC Tryz.prog J0 JF0 hds).hd 167 = 0 := _root_.id (by kernel_rfl)
theorem tt2 : tt 2 = some (.atom (.c (.int .i64 0))) := _root_.id rfl
theorem tt3 : tt 3 = some (.atom (.c (.int .i64 0))) := _root_.id rfl
theorem tt4 : tt 4 = some (.atom (.c (.bool false))) := _root_.id rfl
theorem tt5 : tt 5 = some (.atom (.c (.int .u8 0))) := _root_.id rfl
theorem tt9 : tt 9 = some (.atom (.c (.str ⟨#[]⟩))) := _root_.id rfl
theorem tt12 : tt 12 = some (.atom (.c (.int .u64 0))) := _root_.id rfl
theorem tt14 : tt 14 = some (.strct [⟨0, 1, false⟩, ⟨1, 1, false⟩] 2 [.c (.str ⟨#[]⟩), .c (.int .u64 0)]) := _root_.id rfl
theorem tt20 : tt 20 = some (.ifc) := _root_.id rfl
theorem tt21 : tt 21 = some (.atom (.c (.int .i32 0))) := _root_.id rfl
theorem tt22 : tt 22 = some (.slice 42 4 72 [.c (.str ⟨#[]⟩), .c (.int .i64 0), .nil 112 5, .nil 115 3]) := _root_.id rfl
theorem tt23 : tt 23 = some (.slice 46 2 40 [.c (.str ⟨#[]⟩), .nil 9 1]) := _root_.id rfl
theorem tt27 : tt 27 = some (.slice 52 4 72 [.c (.str ⟨#[]⟩), .c (.int .i64 0), .nil 99 5, .nil 62 3]) := _root_.id rfl
theorem tt29 : tt 29 = some (.slice 57 2 40 [.c (.str ⟨#[]⟩), .nil 9 1]) := _root_.id rfl
theorem tt39 : tt 39 = some (.slice 112 5 80 [.c (.int .i64 0), .c (.str ⟨#[]⟩), .nil 9 1, .c (.str ⟨#[]⟩), .c (.str ⟨#[]⟩)]) := _root_.id rfl
theorem tt40 : tt 40 = some (.slice 115 3 48 [.c (.int .i64 0), .c (.str ⟨#[]⟩), .nil 9 1]) := _root_.id rfl
theorem tt42 : tt 42 = some (.strct [⟨0, 1, false⟩, ⟨1, 1, false⟩, ⟨2, 1, false⟩, ⟨3, 1, false⟩] 4 [.c (.str ⟨#[]⟩), .c (.int .i64 0), .nil 112 5, .nil 115 3]) := _root_.id rfl
theorem tt44 : tt 44 = some (.slice 9 1 16 [.c (.str ⟨#[]⟩)]) := _root_.id rfl
theorem tt46 : tt 46 = some (.strct [⟨0, 1, false⟩, ⟨1, 1, false⟩] 2 [.c (.str ⟨#[]⟩), .nil 9 1]) := _root_.id rfl
theorem tt47 : tt 47 = some (.slice 56 3 64 [.c (.str ⟨#[]⟩), .nil 57 2, .nil 119 2]) := _root_.id rfl
theorem tt49 : tt 49 = some (.slice 99 5 80 [.c (.int .i64 0), .c (.str ⟨#[]⟩), .nil 9 1, .c (.str ⟨#[]⟩), .c (.str ⟨#[]⟩)]) := _root_.id rfl
theorem tt50 : tt 50 = some (.slice 62 3 48 [.c (.int .i64 0), .c (.str ⟨#[]⟩), .nil 9 1]) := _root_.id rfl
theorem tt52 : tt 52 = some (.strct [⟨0, 1, false⟩, ⟨1, 1, false⟩, ⟨2, 1, false⟩, ⟨3, 1, false⟩] 4 [.c (.str ⟨#[]⟩), .c (.int .i64 0), .nil 99 5, .nil 62 3]) := _root_.id rfl
theorem tt54 : tt 54 = some (.slice 119 2 32 [.c (.str ⟨#[]⟩), .c (.str ⟨#[]⟩)]) := _root_.id rfl
theorem tt56 : tt 56 = some (.strct [⟨0, 1, false⟩, ⟨1, 1, false⟩, ⟨2, 1, false⟩] 3 [.c (.str ⟨#[]⟩), .nil 57 2, .nil 119 2]) := _root_.id rfl
theorem tt57 : tt 57 = some (.strct [⟨0, 1, false⟩, ⟨1, 1, false⟩] 2 [.c (.str ⟨#[]⟩), .nil 9 1]) := _root_.id rfl
theorem tt60 : tt 60 = some (.strct [⟨0, 1, false⟩, ⟨1, 1, false⟩] 2 [.c (.str ⟨#[]⟩), .nil 9 1]) := _root_.id rfl
theorem tt62 : tt 62 = some (.strct [⟨0, 1, false⟩, ⟨1, 2, true⟩] 3 [.c (.int .i64 0), .c (.str ⟨#[]⟩), .nil 9 1]) := _root_.id rfl
theorem tt72 : tt 72 = some (.slice 76 2 48 [.nil 57 2, .nil 119 2]) := _root_.id rfl
theorem tt76 : tt 76 = some (.strct [⟨0, 1, false⟩, ⟨1, 1, false⟩] 2 [.nil 57 2, .nil 119 2]) := _root_.id rfl
theorem tt99 : tt 99 = some (.strct [⟨0, 1, false⟩, ⟨1, 2, true⟩, ⟨3, 1, false⟩, ⟨4, 1, false⟩] 5 [.c (.int .i64 0), .c (.str ⟨#[]⟩), .nil 9 1, .c (.str ⟨#[]⟩), .c (.str ⟨#[]⟩)]) := _root_.id rfl
theorem tt103 : tt 103 = some (.map .str .bool) := _root_.id rfl
theorem tt108 : tt 108 = some (.slice 5 1 1 [.c (.int .u8 0)]) := _root_.id rfl
theorem tt110 : tt 110 = some (.strct [⟨0, 1, false⟩, ⟨1, 1, false⟩] 2 [.c (.str ⟨#[]⟩), .nil 9 1]) := _root_.id rfl
theorem tt112 : tt 112 = some (.strct [⟨0, 1, false⟩, ⟨1, 2, true⟩, ⟨3, 1, false⟩, ⟨4, 1, false⟩] 5 [.c (.int .i64 0), .c (.str ⟨#[]⟩), .nil 9 1, .c (.str ⟨#[]⟩), .c (.str ⟨#[]⟩)]) := _root_.id rfl
theorem tt115 : tt 115 = some (.strct [⟨0, 1, false⟩, ⟨1, 2, true⟩] 3 [.c (.int .i64 0), .c (.str ⟨#[]⟩), .nil 9 1]) := _root_.id rfl
theorem tt119 : tt 119 = some (.strct [⟨0, 1, false⟩, ⟨1, 1, false⟩] 2 [.c (.str ⟨#[]⟩), .c (.str ⟨#[]⟩)]) := _root_.id rfl
theorem tt148 : tt 148 = some (.ifc) := _root_.id rfl
theorem tt149 : tt 149 = some (.ifc) := _root_.id rfl
theorem tt155 : tt 155 = some (.atom (.c (.int .u64 0))) := _root_.id rfl
theorem tt166 : tt 166 = some (.atom (.c (.int .u32 0))) := _root_.id rfl
theorem tt168 : tt 168 = some (.atom (.c (.int .u64 0))) := _root_.id rfl
theorem tt195 : tt 195 = some (.strct [⟨0, 1, false⟩] 1 [.c (.str ⟨#[]⟩)]) := _root_.id rfl
theorem fnk {f : FuncId} {fn : Func} {c : Code} {args : List (Bool × List CT)} {res : List RT} (hf : Tryz.prog.funcs[f]? = some fn) (hname : (fn.name == "runtime.NumGoroutine") = false) (hb : fn.body = some c) (hok : codeOk tt hds false fn.ntmps c = true) (hlen : Nat.ble args.length fn.ntmps = true) (h : fnS tt (SC Tryz.prog J0 JF0 hds) fn.results.toList c args res) : Sound Tryz.prog J0 f args res := fn_sound htt hJ0 hmix hf hname hb hok hlen h
def ePattern (x : PatternD) : List CT := [.str x.rel, .sl 9 1 (List.map eStr x.args)]
theorem ePattern_eq (x : PatternD) : ePattern x = [.str x.rel, .sl 9 1 (List.map eStr x.args)] := _root_.id rfl
def eCond (x : CondD) : List CT := [.int .i64 x.kind, .str x.pattern.rel, .sl 9 1 (List.map eStr x.pattern.args), .str x.left, .str x.right]
theorem eCond_eq (x : CondD) : eCond x = [.int .i64 x.kind, .str x.pattern.rel, .sl 9 1 (List.map eStr x.pattern.args), .str x.left, .str x.right] := _root_.id rfl
def eAction (x : ActionD) : List CT := [.int .i64 x.kind, .str x.pattern.rel, .sl 9 1 (List.map eStr x.pattern.args)]
theorem eAction_eq (x : ActionD) : eAction x = [.int .i64 x.kind, .str x.pattern.rel, .sl 9 1 (List.map eStr x.pattern.args)] := _root_.id rfl
def eRule (x : RuleD) : List CT := [.str x.name, .int .i64 x.priority, .sl 99 5 (List.map eCond x.cond), .sl 62 3 (List.map eAction x.thn)]
theorem eRule_eq (x : RuleD) : eRule x = [.str x.name, .int .i64 x.priority, .sl 99 5 (List.map eCond x.cond), .sl 62 3 (List.map eAction x.thn)] := _root_.id rfl
def eFact (x : FactD) : List CT := [.str x.rel, .sl 9 1 (List.map eStr x.args)]
theorem eFact_eq (x : FactD) : eFact x = [.str x.rel, .sl 9 1 (List.map eStr x.args)] := _root_.id rfl
def ePair (x : PairD) : List CT := [.str x.var, .str x.value]
theorem ePair_eq (x : PairD) : ePair x = [.str x.var, .str x.value] := _root_.id rfl
theorem ePair_flat (l : List PairD) : flatEs (l.map ePair) = true := flatEs_map (fun _ => rfl) l
def eMatch (x : MatchD) : List CT := [.str x.rule, .sl 57 2 (List.map eFact x.facts), .sl 119 2 (List.map ePair x.binding)]
theorem eMatch_eq (x : MatchD) : eMatch x = [.str x.rule, .sl 57 2 (List.map eFact x.facts), .sl 119 2 (List.map ePair x.binding)] := _root_.id rfl
def eToken (x : TokenD) : List CT := [.sl 57 2 (List.map eFact x.facts), .sl 119 2 (List.map ePair x.binding)]
theorem eToken_eq (x : TokenD) : eToken x = [.sl 57 2 (List.map eFact x.facts), .sl 119 2 (List.map ePair x.binding)] := _root_.id rfl
attribute [go_sem] tt2 tt3 tt4 tt5 tt9 tt12 tt14 tt20 tt21 tt22 tt23 tt27 tt29 tt39 tt40 tt42 tt44 tt46 tt47 tt49 tt50 tt52 tt54 tt56 tt57 tt60 tt62 tt72 tt76 tt99 tt103 tt108 tt110 tt112 tt115 tt119 tt148 tt149 tt155 tt166
attribute [go_sem] tt168 tt195 hd_7 hd_10 hd_14 hd_20 hd_21 hd_22 hd_23 hd_24 hd_25 hd_28 hd_29 hd_30 hd_31 hd_32 hd_35 hd_36 hd_37 hd_38 hd_39 hd_40 hd_41 hd_42 hd_43 hd_44 hd_53 hd_54 hd_55 hd_56 hd_57 hd_58 hd_59 hd_60 hd_64 hd_65 hd_66 hd_67 hd_68 hd_69
attribute [go_sem] hd_70 hd_71 hd_75 hd_76 hd_77 hd_78 hd_79 hd_80 hd_81 hd_82 hd_83 hd_84 hd_85 hd_88 hd_89 hd_90 hd_91 hd_92 hd_93 hd_94 hd_95 hd_96 hd_97 hd_98 hd_99 hd_100 hd_101 hd_102 hd_103 hd_104 hd_105 hd_108 hd_109 hd_110 hd_111 hd_112 hd_113 hd_114 hd_115 hd_116
attribute [go_sem] hd_117 hd_118 hd_119 hd_120 hd_121 hd_122 hd_123 hd_126 hd_127 hd_128 hd_129 hd_130 hd_131 hd_132 hd_133 hd_134 hd_135 hd_136 hd_137 hd_138 hd_139 hd_140 hd_142 hd_144 hd_145 hd_146 hd_148 hd_150 hd_151 hd_152 hd_153 hd_154 hd_155 hd_156 hd_159 hd_160 hd_161 hd_162 hd_167 ePattern_eq
attribute [go_sem] eCond_eq eAction_eq eRule_eq eFact_eq ePair_flat ePair_eq eMatch_eq eToken_eq
end Go.Proofs.YtlkgkkacnoaeaaaGreatDoor

namespace Go.Proofs
open Go.Shelf
def Tryz.lays106_ren : Go.Shelf.Ren := ⟨fun | 106 => 118 | 213 => 147 | 265 => 158 | n => n, fun | 9 => 9 | 3 => 3 | n => n, fun | n => n⟩
theorem Tryz.lays106 : Go.Proofs.Lays.n106 Tryz.prog Tryz.lays106_ren := {
  mixed := by kernel_rfl
  f106 := Tryz.func118.trans (congrArg some (by kernel_rfl))
  f213 := Tryz.func147.trans (congrArg some (by kernel_rfl))
  f265 := Tryz.func158.trans (congrArg some (by kernel_rfl))
  t3 := Tryz.underlying3
  a3 := Tryz.isAgg3
  z3 := Tryz.sizeOf3
  v3 := Tryz.zeroValue3
  t9 := Tryz.underlying9
  a9 := Tryz.isAgg9
  z9 := Tryz.sizeOf9
  v9 := Tryz.zeroValue9 }
open Go.RowKit in
/-- strings.Compare: "Compare returns an integer comparing two strings lexicographically. The result will be 0 if a == b, -1 if a < b, and +1 if a > b.": IT RETURNS 'Lib.compareBytes a b'; the world is as it was. (LAID: no walk: one application.) -/
theorem Tryz.strings_Compare (a b : ByteArray) (w : World) :
    Calls Tryz.prog 118 #[.string a, .string b] w fun e w' => e = .returned (.int .i64 (Lib.compareBytes a.data.toList b.data.toList)) ∧ w' = w := Any.strings_Compare Tryz.lays106 a b w
def Tryz.lays172_ren : Go.Shelf.Ren := ⟨fun | 172 => 159 | 244 => 165 | 245 => 166 | 247 => 179 | 279 => 180 | 280 => 181 | 281 => 182 | 282 => 183 | 287 => 191 | 316 => 192 | 171 => 167 | 205 => 193 | 321 => 196 | 322 => 197 | 243 => 184 | 246 => 194 | 283 => 198 | 284 => 199 | 285 => 200 | 286 => 201 | 129 => 178 | 317 => 202 | 318 => 203 | 319 => 204 | 320 => 205 | 337 => 206 | 338 => 207 | n => n, fun | 9 => 9 | 3 => 3 | 75 => 149 | 76 => 150 | 4 => 4 | 5 => 5 | 167 => 169 | 37 => 108 | 0 => 0 | 85 => 170 | 2 => 2 | 168 => 172 | 53 => 168 | 175 => 181 | 46 => 155 | 210 => 185 | 127 => 192 | 145 => 195 | 143 => 193 | 21 => 21 | 171 => 196 | 173 => 198 | 212 => 202 | 51 => 166 | 20 => 20 | 213 => 203 | 232 => 205 | 233 => 206 | 80 => 207 | n => n, fun | 15 => 1 | 16 => 2 | 17 => 3 | 18 => 4 | 19 => 5 | n => n⟩
theorem Tryz.lays172 : Go.Proofs.Lays.n172 Tryz.prog Tryz.lays172_ren := {
  mixed := by kernel_rfl
  f129 := Tryz.func178.trans (congrArg some (by kernel_rfl))
  f171 := Tryz.func167.trans (congrArg some (by kernel_rfl))
  f172 := Tryz.func159.trans (congrArg some (by kernel_rfl))
  f205 := Tryz.func193.trans (congrArg some (by kernel_rfl))
  f243 := Tryz.func184.trans (congrArg some (by kernel_rfl))
  f244 := Tryz.func165.trans (congrArg some (by kernel_rfl))
  f245 := Tryz.func166.trans (congrArg some (by kernel_rfl))
  f246 := Tryz.func194.trans (congrArg some (by kernel_rfl))
  f247 := Tryz.func179.trans (congrArg some (by kernel_rfl))
  f279 := Tryz.func180.trans (congrArg some (by kernel_rfl))
  f280 := Tryz.func181.trans (congrArg some (by kernel_rfl))
  f281 := Tryz.func182.trans (congrArg some (by kernel_rfl))
  f282 := Tryz.func183.trans (congrArg some (by kernel_rfl))
  f283 := Tryz.func198.trans (congrArg some (by kernel_rfl))
  f284 := Tryz.func199.trans (congrArg some (by kernel_rfl))
  f285 := Tryz.func200.trans (congrArg some (by kernel_rfl))
  f286 := Tryz.func201.trans (congrArg some (by kernel_rfl))
  f287 := Tryz.func191.trans (congrArg some (by kernel_rfl))
  f316 := Tryz.func192.trans (congrArg some (by kernel_rfl))
  f317 := Tryz.func202.trans (congrArg some (by kernel_rfl))
  f318 := Tryz.func203.trans (congrArg some (by kernel_rfl))
  f319 := Tryz.func204.trans (congrArg some (by kernel_rfl))
  f320 := Tryz.func205.trans (congrArg some (by kernel_rfl))
  f321 := Tryz.func196.trans (congrArg some (by kernel_rfl))
  f322 := Tryz.func197.trans (congrArg some (by kernel_rfl))
  f337 := Tryz.func206.trans (congrArg some (by kernel_rfl))
  f338 := Tryz.func207.trans (congrArg some (by kernel_rfl))
  t0 := Tryz.underlying0
  a0 := Tryz.isAgg0
  z0 := Tryz.sizeOf0
  v0 := Tryz.zeroValue0
  t2 := Tryz.underlying2
  a2 := Tryz.isAgg2
  z2 := Tryz.sizeOf2
  v2 := Tryz.zeroValue2
  t3 := Tryz.underlying3
  a3 := Tryz.isAgg3
  z3 := Tryz.sizeOf3
  v3 := Tryz.zeroValue3
  t4 := Tryz.underlying4
  a4 := Tryz.isAgg4
  z4 := Tryz.sizeOf4
  v4 := Tryz.zeroValue4
  t5 := Tryz.underlying5
  a5 := Tryz.isAgg5
  z5 := Tryz.sizeOf5
  v5 := Tryz.zeroValue5
  t9 := Tryz.underlying9
  a9 := Tryz.isAgg9
  z9 := Tryz.sizeOf9
  v9 := Tryz.zeroValue9
  t20 := Tryz.underlying20
  a20 := Tryz.isAgg20
  z20 := Tryz.sizeOf20
  v20 := Tryz.zeroValue20
  t21 := Tryz.underlying21
  a21 := Tryz.isAgg21
  z21 := Tryz.sizeOf21
  v21 := Tryz.zeroValue21
  t37 := Tryz.underlying108
  a37 := Tryz.isAgg108
  z37 := Tryz.sizeOf108
  v37 := Tryz.zeroValue108
  t46 := Tryz.underlying155
  a46 := Tryz.isAgg155
  z46 := Tryz.sizeOf155
  v46 := Tryz.zeroValue155
  t51 := Tryz.underlying166
  a51 := Tryz.isAgg166
  z51 := Tryz.sizeOf166
  v51 := Tryz.zeroValue166
  t53 := Tryz.underlying168
  a53 := Tryz.isAgg168
  z53 := Tryz.sizeOf168
  v53 := Tryz.zeroValue168
  t75 := Tryz.underlying149
  a75 := Tryz.isAgg149
  z75 := Tryz.sizeOf149
  v75 := Tryz.zeroValue149
  t76 := Tryz.underlying150
  a76 := Tryz.isAgg150
  z76 := Tryz.sizeOf150
  v76 := Tryz.zeroValue150
  t85 := Tryz.underlying170
  a85 := Tryz.isAgg170
  z85 := Tryz.sizeOf170
  v85 := Tryz.zeroValue170
  t127 := Tryz.underlying192
  a127 := Tryz.isAgg192
  z127 := Tryz.sizeOf192
  v127 := Tryz.zeroValue192
  t143 := Tryz.underlying193
  a143 := Tryz.isAgg193
  z143 := Tryz.sizeOf193
  v143 := Tryz.zeroValue193
  t145 := Tryz.underlying195
  a145 := Tryz.isAgg195
  z145 := Tryz.sizeOf195
  v145 := Tryz.zeroValue195
  t167 := Tryz.underlying169
  a167 := Tryz.isAgg169
  z167 := Tryz.sizeOf169
  v167 := Tryz.zeroValue169
  t168 := Tryz.underlying172
  a168 := Tryz.isAgg172
  z168 := Tryz.sizeOf172
  v168 := Tryz.zeroValue172
  t171 := Tryz.underlying196
  a171 := Tryz.isAgg196
  z171 := Tryz.sizeOf196
  v171 := Tryz.zeroValue196
  t173 := Tryz.underlying198
  a173 := Tryz.isAgg198
  z173 := Tryz.sizeOf198
  v173 := Tryz.zeroValue198
  t175 := Tryz.underlying181
  a175 := Tryz.isAgg181
  z175 := Tryz.sizeOf181
  v175 := Tryz.zeroValue181
  t210 := Tryz.underlying185
  a210 := Tryz.isAgg185
  z210 := Tryz.sizeOf185
  v210 := Tryz.zeroValue185
  t212 := Tryz.underlying202
  a212 := Tryz.isAgg202
  z212 := Tryz.sizeOf202
  v212 := Tryz.zeroValue202
  t213 := Tryz.underlying203
  a213 := Tryz.isAgg203
  z213 := Tryz.sizeOf203
  t232 := Tryz.underlying205
  a232 := Tryz.isAgg205
  z232 := Tryz.sizeOf205
  v232 := Tryz.zeroValue205
  t233 := Tryz.underlying206
  a233 := Tryz.isAgg206
  z233 := Tryz.sizeOf206
  v233 := Tryz.zeroValue206
  g15 := by kernel_rfl
  g16 := by kernel_rfl
  g17 := by kernel_rfl
  g18 := by kernel_rfl
  g19 := by kernel_rfl }
open Go.RowKit in
/-- strconv.Atoi: "Atoi is equivalent to ParseInt(s, 10, 0), converted to type int.": AT A DECIMAL NUMERAL OF AT MOST 18 BYTES: its value, and a nil error. The world behind the call: the one new row that the library's '[]byte(s)' lays. (LAID: no walk: one application.) -/
theorem Tryz.strconv_Atoi (s : ByteArray) (n : Int) (hl : s.size ≤ 18) (h : Lib.atoi s.data.toList = some n) (w : World) :
    Calls Tryz.prog 159 #[.string s] w fun e w' => e = .returned (.tuple #[.int .i64 n, .nilIface]) ∧ ∃ t, w' = Lib.bytesWorld w 5 t := Any.strconv_Atoi Tryz.lays172 s n hl h w
def Tryz.laysM171_ren : Go.Shelf.Ren := ⟨fun | 171 => 167 | 243 => 184 | 246 => 194 | 283 => 198 | 284 => 199 | 285 => 200 | 286 => 201 | 129 => 178 | 317 => 202 | 318 => 203 | 319 => 204 | 320 => 205 | 337 => 206 | 338 => 207 | n => n, fun | 3 => 3 | 9 => 9 | 2 => 2 | 4 => 4 | 171 => 196 | 0 => 0 | 53 => 168 | 37 => 108 | 5 => 5 | 173 => 198 | 212 => 202 | 51 => 166 | 20 => 20 | 213 => 203 | 46 => 155 | 232 => 205 | 233 => 206 | n => n, fun | 17 => 3 | 18 => 4 | 19 => 5 | n => n⟩
theorem Tryz.laysM171 : Go.Proofs.LaysM.n171 Tryz.prog Tryz.laysM171_ren := {
  mixed := by kernel_rfl
  f129 := Tryz.func178.trans (congrArg some (by kernel_rfl))
  f171 := Tryz.func167.trans (congrArg some (by kernel_rfl))
  f243 := Tryz.func184.trans (congrArg some (by kernel_rfl))
  f246 := Tryz.func194.trans (congrArg some (by kernel_rfl))
  f283 := Tryz.func198.trans (congrArg some (by kernel_rfl))
  f284 := Tryz.func199.trans (congrArg some (by kernel_rfl))
  f285 := Tryz.func200.trans (congrArg some (by kernel_rfl))
  f286 := Tryz.func201.trans (congrArg some (by kernel_rfl))
  f317 := Tryz.func202.trans (congrArg some (by kernel_rfl))
  f318 := Tryz.func203.trans (congrArg some (by kernel_rfl))
  f319 := Tryz.func204.trans (congrArg some (by kernel_rfl))
  f320 := Tryz.func205.trans (congrArg some (by kernel_rfl))
  f337 := Tryz.func206.trans (congrArg some (by kernel_rfl))
  f338 := Tryz.func207.trans (congrArg some (by kernel_rfl))
  t0 := Tryz.underlying0
  a0 := Tryz.isAgg0
  z0 := Tryz.sizeOf0
  v0 := Tryz.zeroValue0
  t2 := Tryz.underlying2
  a2 := Tryz.isAgg2
  z2 := Tryz.sizeOf2
  v2 := Tryz.zeroValue2
  t3 := Tryz.underlying3
  a3 := Tryz.isAgg3
  z3 := Tryz.sizeOf3
  v3 := Tryz.zeroValue3
  t4 := Tryz.underlying4
  a4 := Tryz.isAgg4
  z4 := Tryz.sizeOf4
  v4 := Tryz.zeroValue4
  t5 := Tryz.underlying5
  a5 := Tryz.isAgg5
  z5 := Tryz.sizeOf5
  v5 := Tryz.zeroValue5
  t9 := Tryz.underlying9
  a9 := Tryz.isAgg9
  z9 := Tryz.sizeOf9
  v9 := Tryz.zeroValue9
  t20 := Tryz.underlying20
  a20 := Tryz.isAgg20
  z20 := Tryz.sizeOf20
  v20 := Tryz.zeroValue20
  t37 := Tryz.underlying108
  a37 := Tryz.isAgg108
  z37 := Tryz.sizeOf108
  v37 := Tryz.zeroValue108
  t46 := Tryz.underlying155
  a46 := Tryz.isAgg155
  z46 := Tryz.sizeOf155
  v46 := Tryz.zeroValue155
  t51 := Tryz.underlying166
  a51 := Tryz.isAgg166
  z51 := Tryz.sizeOf166
  v51 := Tryz.zeroValue166
  t53 := Tryz.underlying168
  a53 := Tryz.isAgg168
  z53 := Tryz.sizeOf168
  v53 := Tryz.zeroValue168
  t171 := Tryz.underlying196
  a171 := Tryz.isAgg196
  z171 := Tryz.sizeOf196
  v171 := Tryz.zeroValue196
  t173 := Tryz.underlying198
  a173 := Tryz.isAgg198
  z173 := Tryz.sizeOf198
  v173 := Tryz.zeroValue198
  t212 := Tryz.underlying202
  a212 := Tryz.isAgg202
  z212 := Tryz.sizeOf202
  v212 := Tryz.zeroValue202
  t213 := Tryz.underlying203
  a213 := Tryz.isAgg203
  z213 := Tryz.sizeOf203
  t232 := Tryz.underlying205
  a232 := Tryz.isAgg205
  z232 := Tryz.sizeOf205
  v232 := Tryz.zeroValue205
  t233 := Tryz.underlying206
  a233 := Tryz.isAgg206
  z233 := Tryz.sizeOf206
  v233 := Tryz.zeroValue206
  g17 := by kernel_rfl
  g18 := by kernel_rfl
  g19 := by kernel_rfl
  i0 := by kernel_rfl
  i2 := by kernel_rfl
  i3 := by kernel_rfl
  i4 := by kernel_rfl
  i5 := by kernel_rfl
  i9 := by kernel_rfl
  i20 := by kernel_rfl
  i37 := by kernel_rfl
  i46 := by kernel_rfl
  i51 := by kernel_rfl
  i53 := by kernel_rfl
  i171 := by kernel_rfl
  i173 := by kernel_rfl
  i212 := by kernel_rfl
  i232 := by kernel_rfl
  i233 := by kernel_rfl
  m17 := by kernel_rfl
  m18 := by kernel_rfl
  m19 := by kernel_rfl }
open Go.RowKit Go.Sort Go.Lib in
/-- strconv.Itoa: "Itoa is equivalent to FormatInt(int64(i), 10).": i's DECIMAL NUMERAL ('Lib.itoa': a '-' where i is negative, then the digits), FOR EVERY int. The world behind the call: the world before it, new blocks behind the heap (the library's 'var a [24]byte'), draws. (LAID: no walk: one application.) -/
theorem Tryz.strconv_Itoa (n : Int) (h0 : -9223372036854775808 ≤ n) (h1 : n ≤ 9223372036854775807) (w : World) (htab : Lib.TabIs Tryz.prog w "internal/strconv.uint64pow10" .u64 Lib.pow10Tab) :
    Calls Tryz.prog 167 #[.int .i64 n] w fun e w' => e = .returned (.string ⟨(Lib.itoa n).toArray⟩) ∧ ∃ k os, w' = grow (w.drewN k) os := Any.strconv_Itoa Tryz.laysM171 n h0 h1 w htab
def Tryz.laysC172_ren : Go.Shelf.Ren := ⟨fun | 172 => 159 | 244 => 165 | 245 => 166 | 247 => 179 | 279 => 180 | 280 => 181 | 281 => 182 | 282 => 183 | 287 => 191 | 316 => 192 | 171 => 167 | 205 => 193 | 321 => 196 | 322 => 197 | 243 => 184 | 246 => 194 | 283 => 198 | 284 => 199 | 285 => 200 | 286 => 201 | 129 => 178 | 317 => 202 | 318 => 203 | 319 => 204 | 320 => 205 | 337 => 206 | 338 => 207 | n => n, fun | 9 => 9 | 3 => 3 | 75 => 149 | 76 => 150 | 4 => 4 | 5 => 5 | 167 => 169 | 37 => 108 | 0 => 0 | 85 => 170 | 2 => 2 | 168 => 172 | 53 => 168 | 175 => 181 | 46 => 155 | 210 => 185 | 127 => 192 | 145 => 195 | 143 => 193 | 21 => 21 | 171 => 196 | 173 => 198 | 212 => 202 | 51 => 166 | 20 => 20 | 213 => 203 | 232 => 205 | 233 => 206 | 80 => 207 | n => n, fun | 15 => 1 | 16 => 2 | 17 => 3 | 18 => 4 | 19 => 5 | n => n⟩
theorem Tryz.laysC172 : Go.Proofs.LaysC.n172 Tryz.prog Tryz.laysC172_ren := {
  mixed := by kernel_rfl
  f129 := Tryz.func178.trans (congrArg some (by kernel_rfl))
  f171 := Tryz.func167.trans (congrArg some (by kernel_rfl))
  f172 := Tryz.func159.trans (congrArg some (by kernel_rfl))
  f205 := Tryz.func193.trans (congrArg some (by kernel_rfl))
  f243 := Tryz.func184.trans (congrArg some (by kernel_rfl))
  f244 := Tryz.func165.trans (congrArg some (by kernel_rfl))
  f245 := Tryz.func166.trans (congrArg some (by kernel_rfl))
  f246 := Tryz.func194.trans (congrArg some (by kernel_rfl))
  f247 := Tryz.func179.trans (congrArg some (by kernel_rfl))
  f279 := Tryz.func180.trans (congrArg some (by kernel_rfl))
  f280 := Tryz.func181.trans (congrArg some (by kernel_rfl))
  f281 := Tryz.func182.trans (congrArg some (by kernel_rfl))
  f282 := Tryz.func183.trans (congrArg some (by kernel_rfl))
  f283 := Tryz.func198.trans (congrArg some (by kernel_rfl))
  f284 := Tryz.func199.trans (congrArg some (by kernel_rfl))
  f285 := Tryz.func200.trans (congrArg some (by kernel_rfl))
  f286 := Tryz.func201.trans (congrArg some (by kernel_rfl))
  f287 := Tryz.func191.trans (congrArg some (by kernel_rfl))
  f316 := Tryz.func192.trans (congrArg some (by kernel_rfl))
  f317 := Tryz.func202.trans (congrArg some (by kernel_rfl))
  f318 := Tryz.func203.trans (congrArg some (by kernel_rfl))
  f319 := Tryz.func204.trans (congrArg some (by kernel_rfl))
  f320 := Tryz.func205.trans (congrArg some (by kernel_rfl))
  f321 := Tryz.func196.trans (congrArg some (by kernel_rfl))
  f322 := Tryz.func197.trans (congrArg some (by kernel_rfl))
  f337 := Tryz.func206.trans (congrArg some (by kernel_rfl))
  f338 := Tryz.func207.trans (congrArg some (by kernel_rfl))
  t0 := Tryz.underlying0
  a0 := Tryz.isAgg0
  z0 := Tryz.sizeOf0
  v0 := Tryz.zeroValue0
  t2 := Tryz.underlying2
  a2 := Tryz.isAgg2
  z2 := Tryz.sizeOf2
  v2 := Tryz.zeroValue2
  t3 := Tryz.underlying3
  a3 := Tryz.isAgg3
  z3 := Tryz.sizeOf3
  v3 := Tryz.zeroValue3
  t4 := Tryz.underlying4
  a4 := Tryz.isAgg4
  z4 := Tryz.sizeOf4
  v4 := Tryz.zeroValue4
  t5 := Tryz.underlying5
  a5 := Tryz.isAgg5
  z5 := Tryz.sizeOf5
  v5 := Tryz.zeroValue5
  t9 := Tryz.underlying9
  a9 := Tryz.isAgg9
  z9 := Tryz.sizeOf9
  v9 := Tryz.zeroValue9
  t20 := Tryz.underlying20
  a20 := Tryz.isAgg20
  z20 := Tryz.sizeOf20
  v20 := Tryz.zeroValue20
  t21 := Tryz.underlying21
  a21 := Tryz.isAgg21
  z21 := Tryz.sizeOf21
  v21 := Tryz.zeroValue21
  t37 := Tryz.underlying108
  a37 := Tryz.isAgg108
  z37 := Tryz.sizeOf108
  v37 := Tryz.zeroValue108
  t46 := Tryz.underlying155
  a46 := Tryz.isAgg155
  z46 := Tryz.sizeOf155
  v46 := Tryz.zeroValue155
  t51 := Tryz.underlying166
  a51 := Tryz.isAgg166
  z51 := Tryz.sizeOf166
  v51 := Tryz.zeroValue166
  t53 := Tryz.underlying168
  a53 := Tryz.isAgg168
  z53 := Tryz.sizeOf168
  v53 := Tryz.zeroValue168
  t75 := Tryz.underlying149
  a75 := Tryz.isAgg149
  z75 := Tryz.sizeOf149
  v75 := Tryz.zeroValue149
  t76 := Tryz.underlying150
  a76 := Tryz.isAgg150
  z76 := Tryz.sizeOf150
  v76 := Tryz.zeroValue150
  t85 := Tryz.underlying170
  a85 := Tryz.isAgg170
  z85 := Tryz.sizeOf170
  v85 := Tryz.zeroValue170
  t127 := Tryz.underlying192
  a127 := Tryz.isAgg192
  z127 := Tryz.sizeOf192
  v127 := Tryz.zeroValue192
  t143 := Tryz.underlying193
  a143 := Tryz.isAgg193
  z143 := Tryz.sizeOf193
  v143 := Tryz.zeroValue193
  t145 := Tryz.underlying195
  a145 := Tryz.isAgg195
  z145 := Tryz.sizeOf195
  v145 := Tryz.zeroValue195
  t167 := Tryz.underlying169
  a167 := Tryz.isAgg169
  z167 := Tryz.sizeOf169
  v167 := Tryz.zeroValue169
  t168 := Tryz.underlying172
  a168 := Tryz.isAgg172
  z168 := Tryz.sizeOf172
  v168 := Tryz.zeroValue172
  t171 := Tryz.underlying196
  a171 := Tryz.isAgg196
  z171 := Tryz.sizeOf196
  v171 := Tryz.zeroValue196
  t173 := Tryz.underlying198
  a173 := Tryz.isAgg198
  z173 := Tryz.sizeOf198
  v173 := Tryz.zeroValue198
  t175 := Tryz.underlying181
  a175 := Tryz.isAgg181
  z175 := Tryz.sizeOf181
  v175 := Tryz.zeroValue181
  t210 := Tryz.underlying185
  a210 := Tryz.isAgg185
  z210 := Tryz.sizeOf185
  v210 := Tryz.zeroValue185
  t212 := Tryz.underlying202
  a212 := Tryz.isAgg202
  z212 := Tryz.sizeOf202
  v212 := Tryz.zeroValue202
  t213 := Tryz.underlying203
  a213 := Tryz.isAgg203
  z213 := Tryz.sizeOf203
  t232 := Tryz.underlying205
  a232 := Tryz.isAgg205
  z232 := Tryz.sizeOf205
  v232 := Tryz.zeroValue205
  t233 := Tryz.underlying206
  a233 := Tryz.isAgg206
  z233 := Tryz.sizeOf206
  v233 := Tryz.zeroValue206
  g15 := by kernel_rfl
  g16 := by kernel_rfl
  g17 := by kernel_rfl
  g18 := by kernel_rfl
  g19 := by kernel_rfl
  t80 := Tryz.underlying207
  a80 := Tryz.isAgg207
  z80 := Tryz.sizeOf207
  v80 := Tryz.zeroValue207
  i0 := by kernel_rfl
  i2 := by kernel_rfl
  i3 := by kernel_rfl
  i4 := by kernel_rfl
  i5 := by kernel_rfl
  i9 := by kernel_rfl
  i20 := by kernel_rfl
  i21 := by kernel_rfl
  i37 := by kernel_rfl
  i46 := by kernel_rfl
  i51 := by kernel_rfl
  i53 := by kernel_rfl
  i75 := by kernel_rfl
  i76 := by kernel_rfl
  i80 := by kernel_rfl
  i85 := by kernel_rfl
  i127 := by kernel_rfl
  i143 := by kernel_rfl
  i145 := by kernel_rfl
  i167 := by kernel_rfl
  i168 := by kernel_rfl
  i171 := by kernel_rfl
  i173 := by kernel_rfl
  i175 := by kernel_rfl
  i210 := by kernel_rfl
  i212 := by kernel_rfl
  i232 := by kernel_rfl
  i233 := by kernel_rfl
  m15 := by kernel_rfl
  m16 := by kernel_rfl
  m17 := by kernel_rfl
  m18 := by kernel_rfl
  m19 := by kernel_rfl
  c0 := by kernel_rfl
  c2 := by kernel_rfl
  c3 := by kernel_rfl
  c4 := by kernel_rfl
  c5 := by kernel_rfl
  c9 := by kernel_rfl
  c20 := by kernel_rfl
  c21 := by kernel_rfl
  c37 := by kernel_rfl
  c46 := by kernel_rfl
  c51 := by kernel_rfl
  c53 := by kernel_rfl
  c75 := by kernel_rfl
  c76 := by kernel_rfl
  c80 := by kernel_rfl
  c85 := by kernel_rfl
  c127 := by kernel_rfl
  c143 := by kernel_rfl
  c145 := by kernel_rfl
  c167 := by kernel_rfl
  c168 := by kernel_rfl
  c171 := by kernel_rfl
  c173 := by kernel_rfl
  c175 := by kernel_rfl
  c210 := by kernel_rfl
  c212 := by kernel_rfl
  c213 := by kernel_rfl
  c232 := by kernel_rfl
  c233 := by kernel_rfl }
open Go.RowKit in
theorem Tryz.strconv_Atoi_err_var (s : ByteArray) (hl : s.size ≤ 18) (h : Lib.atoi s.data.toList = none) (tp : TypeId) (p : Value) (w : World) (hvar : w.var? Tryz.prog "strconv.ErrSyntax" = some #[.iface tp p]) :
    Calls Tryz.prog 159 #[.string s] w fun e w' => ∃ N, e = .returned (.tuple #[.int .i64 0, .iface 172 (.pointer (some ⟨N, 0, none⟩))]) ∧ w.heap.size ≤ N ∧ w'.heap[N]? = some (.cells #[.string ⟨#[65, 116, 111, 105]⟩, .string s, .iface tp p] 185 (0, 0)) ∧ Below w.heap.size w w' := Any.strconv_Atoi_err_var Tryz.laysC172 s hl h tp p w hvar
def Tryz.lays192_ren : Go.Shelf.Ren := ⟨fun | 192 => 146 | 190 => 157 | 125 => 164 | 258 => 163 | 128 => 177 | 129 => 178 | 302 => 168 | 303 => 169 | 304 => 170 | 305 => 171 | 306 => 172 | 307 => 173 | 308 => 174 | 309 => 175 | 310 => 176 | 333 => 185 | 329 => 186 | 330 => 187 | 334 => 188 | 335 => 189 | 336 => 190 | 344 => 195 | n => n, fun | 31 => 44 | 0 => 0 | 9 => 9 | 3 => 3 | 46 => 155 | 51 => 166 | 53 => 168 | 4 => 4 | 183 => 159 | 182 => 158 | 131 => 143 | 5 => 5 | 218 => 175 | 222 => 179 | 228 => 188 | 229 => 189 | n => n, fun | n => n⟩
theorem Tryz.lays192 : Go.Proofs.Lays.n192 Tryz.prog Tryz.lays192_ren := {
  mixed := by kernel_rfl
  f125 := Tryz.func164.trans (congrArg some (by kernel_rfl))
  f128 := Tryz.func177.trans (congrArg some (by kernel_rfl))
  f129 := Tryz.func178.trans (congrArg some (by kernel_rfl))
  f190 := Tryz.func157.trans (congrArg some (by kernel_rfl))
  f192 := Tryz.func146.trans (congrArg some (by kernel_rfl))
  f258 := Tryz.func163.trans (congrArg some (by kernel_rfl))
  f302 := Tryz.func168.trans (congrArg some (by kernel_rfl))
  f303 := Tryz.func169.trans (congrArg some (by kernel_rfl))
  f304 := Tryz.func170.trans (congrArg some (by kernel_rfl))
  f305 := Tryz.func171.trans (congrArg some (by kernel_rfl))
  f306 := Tryz.func172.trans (congrArg some (by kernel_rfl))
  f307 := Tryz.func173.trans (congrArg some (by kernel_rfl))
  f308 := Tryz.func174.trans (congrArg some (by kernel_rfl))
  f309 := Tryz.func175.trans (congrArg some (by kernel_rfl))
  f310 := Tryz.func176.trans (congrArg some (by kernel_rfl))
  f329 := Tryz.func186.trans (congrArg some (by kernel_rfl))
  f330 := Tryz.func187.trans (congrArg some (by kernel_rfl))
  f333 := Tryz.func185.trans (congrArg some (by kernel_rfl))
  f334 := Tryz.func188.trans (congrArg some (by kernel_rfl))
  f335 := Tryz.func189.trans (congrArg some (by kernel_rfl))
  f336 := Tryz.func190.trans (congrArg some (by kernel_rfl))
  f344 := Tryz.func195.trans (congrArg some (by kernel_rfl))
  t0 := Tryz.underlying0
  a0 := Tryz.isAgg0
  z0 := Tryz.sizeOf0
  v0 := Tryz.zeroValue0
  t3 := Tryz.underlying3
  a3 := Tryz.isAgg3
  z3 := Tryz.sizeOf3
  v3 := Tryz.zeroValue3
  t4 := Tryz.underlying4
  a4 := Tryz.isAgg4
  z4 := Tryz.sizeOf4
  v4 := Tryz.zeroValue4
  t5 := Tryz.underlying5
  a5 := Tryz.isAgg5
  z5 := Tryz.sizeOf5
  v5 := Tryz.zeroValue5
  t9 := Tryz.underlying9
  a9 := Tryz.isAgg9
  z9 := Tryz.sizeOf9
  v9 := Tryz.zeroValue9
  t31 := Tryz.underlying44
  a31 := Tryz.isAgg44
  z31 := Tryz.sizeOf44
  v31 := Tryz.zeroValue44
  t46 := Tryz.underlying155
  a46 := Tryz.isAgg155
  z46 := Tryz.sizeOf155
  v46 := Tryz.zeroValue155
  t51 := Tryz.underlying166
  a51 := Tryz.isAgg166
  z51 := Tryz.sizeOf166
  v51 := Tryz.zeroValue166
  t53 := Tryz.underlying168
  a53 := Tryz.isAgg168
  z53 := Tryz.sizeOf168
  v53 := Tryz.zeroValue168
  t131 := Tryz.underlying143
  a131 := Tryz.isAgg143
  z131 := Tryz.sizeOf143
  v131 := Tryz.zeroValue143
  t182 := Tryz.underlying158
  a182 := Tryz.isAgg158
  z182 := Tryz.sizeOf158
  v182 := Tryz.zeroValue158
  t183 := Tryz.underlying159
  a183 := Tryz.isAgg159
  z183 := Tryz.sizeOf159
  v183 := Tryz.zeroValue159
  t218 := Tryz.underlying175
  a218 := Tryz.isAgg175
  z218 := Tryz.sizeOf175
  v218 := Tryz.zeroValue175
  t222 := Tryz.underlying179
  a222 := Tryz.isAgg179
  z222 := Tryz.sizeOf179
  v222 := Tryz.zeroValue179
  t228 := Tryz.underlying188
  a228 := Tryz.isAgg188
  z228 := Tryz.sizeOf188
  v228 := Tryz.zeroValue188
  t229 := Tryz.underlying189
  a229 := Tryz.isAgg189
  z229 := Tryz.sizeOf189
  v229 := Tryz.zeroValue189 }
open Go.Sort Go.RowKit in
theorem Tryz.sort_Strings (blk off cap : Nat) (ss : List (List UInt8)) (w : World) (hH : Holds encStr w blk off ss.toArray) (hblk : blk < w.heap.size) (hsz : ss.length < 4611686018427387904) :
    Calls Tryz.prog 146 #[.slice (some ⟨blk, off, none⟩) ss.length cap] w fun e w' =>
      e = .returned (.tuple #[]) ∧ ∃ n os, w' = grow (putRow encStr (Sort.ahead w n) blk off (ss.mergeSort fun x y => decide (x ≤ y)).toArray) os := Any.sort_Strings Tryz.lays192 blk off cap ss w hH hblk hsz
open Go.RowKit Go.Sort in
/-- .. and plain. (LAID: no walk: one application.) -/
theorem Tryz.sort_Strings_none (p : Option Addr) (cap : Nat) (w : World) :
    Calls Tryz.prog 146 #[.slice p 0 cap] w fun e w' => e = .returned (.tuple #[]) ∧ w' = w := Any.sort_Strings_none Tryz.lays192 p cap w
end Go.Proofs

namespace Go.Proofs.YtlkgkkacnoaeaaaGreatDoor
open Go.RowKit
theorem compare_S {J : World → Prop} {a b : ByteArray} {r : Int} (h : x_Compare a b = some r) : Sound Tryz.prog J 118 [(false, [.str a]), (false, [.str b])] [(false, [(false, .int .i64 r)])] := by
  obtain rfl := Option.some.inj h
  refine ⟨⟨Tryz.f118, Tryz.func118, by kernel_rfl, by kernel_rfl⟩, fun w z vs hj hz hargs => ?_⟩
  obtain ⟨v, u, L, M, rfl, ⟨rfl, _⟩, rfl, _⟩ := args_two hargs
  refine (Tryz.strings_Compare a b w).mono ?_
  rintro e w' ⟨rfl, rfl⟩
  exact ⟨_, z, rfl, resv_one ⟨⟨rfl, rfl⟩, rfl⟩, fun b h => h, Below.refl _ _⟩
end Go.Proofs.YtlkgkkacnoaeaaaGreatDoor

namespace Go.Proofs.YtlkgkkacnoaeaaaGreatDoor
open Go.RowKit Go.Sort
theorem sort_hand {α : Type} [Inhabited α] {P : Program} {J : World → Prop} {JF : Nat → Prop} (enc : α → Value) (el : α → List CT) (hel : ∀ (w : World) x v L, RCs w (el x) v L → v = [enc x]) (hmv : ∀ (w w' : World) x, RCs w (el x) [enc x] [] → RCs w' (el x) [enc x] []) (hflat : ∀ l : List α, flatEs (l.map el) = true) {f : FuncId} {e : TypeId} {zs d : List α} (hc : Callable P f) (hd : d.length = zs.length) (hsub : ∀ x ∈ d, x ∈ zs)
    (hN : ∀ p cap w, Calls P f #[.slice p 0 cap] w fun e w' => e = .returned (.tuple #[]) ∧ w' = w)
    (hC : ∀ blk off cap w, Holds enc w blk off zs.toArray → blk < w.heap.size → Calls P f #[.slice (some ⟨blk, off, none⟩) zs.length cap] w fun e w' => e = .returned (.tuple #[]) ∧ ∃ n os, w' = grow (putRow enc (Sort.ahead w n) blk off d.toArray) os) :
    SoundH P J JF f (.row e 1 (zs.map el)) [] [] (.row e 1 (d.map el)) := by
  refine ⟨hc, fun w z q v0 vs hj hqf hz hh ha => ?_⟩
  cases vs with
  | cons _ _ => exact ha.elim
  | nil =>
  obtain ⟨hfl, hm, hq, cs, hown, hre⟩ := hh
  have hcs : ∀ (l : List α) (cs : List Value) (L : List Nat), REs w 1 (l.map el) cs L → cs = l.map enc ∧ (L = [] → ∀ x ∈ l, RCs w (el x) [enc x] []) := by
    intro l
    induction l with
    | nil => intro cs L h; exact ⟨h.1, fun _ x mx => by simp at mx⟩
    | cons x l ih =>
      rintro cs L ⟨c1, c2, L1, L2, rfl, rfl, h3, h4⟩
      obtain ⟨i1, i2⟩ := ih _ _ h4
      have e1 := hel _ _ _ _ h3.1
      refine ⟨by rw [e1, i1]; rfl, fun hL y my => ?_⟩
      obtain ⟨l1, l2⟩ := List.append_eq_nil_iff.1 hL
      rcases List.mem_cons.1 my with rfl | my
      · rw [← e1, ← l1]; exact h3.1
      · exact i2 l2 y my
  obtain ⟨e1, e2⟩ := hcs zs cs [] hre
  have e2 := e2 rfl
  subst e1
  have hre' : ∀ (w' : World) (l : List α), (∀ x ∈ l, x ∈ zs) → REs w' 1 (l.map el) (l.map enc) [] := by
    intro w' l
    induction l with
    | nil => intro _; exact ⟨rfl, rfl⟩
    | cons x l ih => intro hl; exact ⟨[enc x], l.map enc, [], [], rfl, rfl, ⟨hmv w w' x (e2 x (hl x (by simp))), rfl⟩, ih fun y my => hl y (by simp [my])⟩
  have hzl : (zs.map el).length = zs.length := by simp
  rw [hzl] at hown
  have done : ∀ w' : World, w'.os = w.os → w'.tape = w.tape → w'.output = w.output → w.heap.size ≤ w'.heap.size → (∀ k, k < w.heap.size → ¬ q = some k → w'.heap[k]? = w.heap[k]?) → w'.ownsV 0 e 1 v0 d.length (d.map enc) → ∃ v n, Ending.returned (.tuple #[]) = .returned v ∧ ResR w' w.heap.size n [] v ∧ (∀ b, inQ z q b → n b) ∧ HandR w' n q (.row e 1 (d.map el)) v0 ∧ BelQ q w w' :=
    fun w' h1 h2 h3 h4 h5 h6 => ⟨_, inQ z q, rfl, ⟨[], [], ⟨rfl, rfl⟩, Own.nil _ _, rfl⟩, fun _ h => h, ⟨hflat d, by omega, hq, d.map enc, by simpa using h6, hre' w' d hsub⟩, ⟨h1, h2, h3, h4, h5⟩⟩
  rcases Nat.eq_zero_or_pos zs.length with h0 | h0
  · have hz0 : zs = [] := List.eq_nil_of_length_eq_zero h0
    have hd0 : d = [] := List.eq_nil_of_length_eq_zero (hd.trans h0)
    obtain ⟨A, cap, hv⟩ := own_val hown
    rw [h0] at hv
    subst hv
    refine (hN A cap w).mono ?_
    rintro e' w' ⟨rfl, rfl⟩
    exact done w' rfl rfl rfl (Nat.le_refl _) (fun _ _ _ => rfl) (by rw [hd0]; rw [hz0] at hown; exact hown)
  · rcases hown.2 with ⟨h', hl0⟩ | ⟨g, o, cap, cur, h', hb, hg, hnc, hcm, hcsz, htake⟩
    · omega
    · subst h'
      have hlt : g < w.heap.size := (Array.getElem?_eq_some_iff.1 hg).1
      have hcur : ∀ j, j < zs.length → cur[o + j]? = some (enc zs[j]!) := fun j hj => by
        have := congrArg (fun l => l[j]?) htake
        simp only [Nat.mul_one, List.getElem?_take, hj, if_true, List.getElem?_drop, Array.getElem?_toList, List.getElem?_map] at this
        rw [this]
        simp [List.getElem!_eq_getElem?_getD, hj]
      refine (hC g o cap w (fun j hj => ?_) hlt).mono ?_
      · have hj' : j < zs.length := by simpa using hj
        refine ⟨?_, by simp [World.frozen?, hg]⟩
        simp only [World.cell?, hg, Option.isSome_none, Bool.false_eq_true, if_false]
        rw [hcur j hj']
        simp [hj']
      · rintro e' w' ⟨rfl, n, os, rfl⟩
        have hh : (putRow enc (Sort.ahead w n) g o d.toArray).heap[g]? = some (.cells (putCells enc o d.toArray cur) e (0, 0)) := by
          simp only [putRow, mapBlock, heap_ahead, Array.getElem?_modify, if_true, hg, Option.map_some, onCells]
        refine done _ rfl rfl rfl (by simp) (fun k hk hqk => ?_) ⟨by simp, .inr ⟨g, o, cap, putCells enc o d.toArray cur, by rw [hd], by omega, ?_, by omega, hcm, by simpa [putCells] using hcsz, ?_⟩⟩
        · rw [heap_grow_old _ _ (by simpa using hk)]
          simp only [putRow, mapBlock, heap_ahead, Array.getElem?_modify]
          rw [if_neg (fun e => hqk (by rw [← hq]; simp [Value.ownBlock, e]))]
        · rw [heap_grow_old _ _ (by simpa using hlt)]; exact hh
        · apply List.ext_getElem?
          intro j
          simp only [Nat.mul_one, List.getElem?_take, List.getElem?_drop, List.getElem?_map, Array.getElem?_toList, putCells, Array.getElem?_mapIdx, List.size_toArray]
          by_cases hj : j < d.length
          · have hjc : o + j < cur.size := by omega
            simp [hj, hjc]
          · simp [hj]
end Go.Proofs.YtlkgkkacnoaeaaaGreatDoor

namespace Go.Proofs.YtlkgkkacnoaeaaaGreatDoor
open Go.RowKit Go.Sort
theorem sortStrings_H {J : World → Prop} {JF : Nat → Prop} {l r : List ByteArray} (h : x_sortStrings l = some r) : SoundH Tryz.prog J JF 146 (.row 9 1 (l.map eStr)) [] [] (.row 9 1 (r.map eStr)) := by
  obtain ⟨h1, h2⟩ := chk_K h
  obtain rfl := Option.some.inj h2
  have e1 : l.map eStr = (l.map toL).map fun x => eStr (ofL x) := by rw [List.map_map]; exact List.map_congr_left fun x _ => by simp [ofL_toL]
  have e2 : (sortB l).map eStr = ((l.map toL).mergeSort fun x y => decide (x ≤ y)).map fun x => eStr (ofL x) := by simp [sortB, List.map_map, Function.comp_def]
  rw [e1, e2]
  refine sort_hand encStr (fun x => eStr (ofL x)) (fun w x v L h => ?_) (fun w w' x h => h) (fun l => flatEs_map (fun _ => rfl) l) ⟨Tryz.f146, Tryz.func146, by kernel_rfl, by kernel_rfl⟩ (by simp) (fun x hx => by simpa using hx) (fun p cap w => Tryz.sort_Strings_none p cap w) (fun blk off cap w hH hb => Tryz.sort_Strings blk off cap (l.map toL) w hH hb (by simp; omega))
  obtain ⟨u, vs, L1, L2, rfl, rfl, q1, rfl, rfl⟩ := h
  rw [q1.1]
  rfl
end Go.Proofs.YtlkgkkacnoaeaaaGreatDoor

namespace Go.Proofs.YtlkgkkacnoaeaaaGreatDoor
open Go.RowKit
theorem atoi_S {J : World → Prop} (hJ : ∀ w, J w → ∃ tp p, w.var? Tryz.prog "strconv.ErrSyntax" = some #[.iface tp p]) {s : ByteArray} {r : Int × Bool} (h : x_Atoi s = some r) : Sound Tryz.prog J 159 [(false, [.str s])] [(false, [(false, .int .i64 r.1)]), (false, [(false, .ifc r.2)])] := by
  obtain ⟨h1, h2⟩ := chk_K h
  refine ⟨⟨Tryz.f159, Tryz.func159, by kernel_rfl, by kernel_rfl⟩, fun w z vs hj hz hargs => ?_⟩
  obtain ⟨v, L, rfl, rfl, _⟩ := args_one hargs
  cases ha : Lib.atoi (toL s) with
  | some n =>
    rw [ha] at h2
    obtain rfl := Option.some.inj h2
    refine (Tryz.strconv_Atoi s n h1 ha w).mono ?_
    rintro e w' ⟨rfl, t, rfl⟩
    exact ⟨_, z, rfl, resv_two ⟨⟨rfl, rfl⟩, rfl⟩ ⟨⟨rfl, rfl, rfl⟩, rfl⟩, fun b h => h, Lib.bytesWorld_below _ _ _⟩
  | none =>
    rw [ha] at h2
    obtain rfl := Option.some.inj h2
    obtain ⟨tp, p, hv⟩ := hJ w hj
    refine (Tryz.strconv_Atoi_err_var s h1 ha tp p w hv).mono ?_
    rintro e w' ⟨N, rfl, _, _, hb⟩
    exact ⟨_, z, rfl, resv_two ⟨⟨rfl, rfl⟩, rfl⟩ ⟨⟨rfl, rfl, _, _, rfl⟩, rfl⟩, fun b h => h, hb⟩
end Go.Proofs.YtlkgkkacnoaeaaaGreatDoor

namespace Go.Proofs.YtlkgkkacnoaeaaaGreatDoor
open Go.RowKit Go.Sort Go.Lib
theorem itoa_S {J : World → Prop} (hJ : ∀ w, J w → Lib.TabIs Tryz.prog w "internal/strconv.uint64pow10" .u64 Lib.pow10Tab) {n : Int} {r : ByteArray} (h : x_Itoa n = some r) : Sound Tryz.prog J 167 [(false, [.int .i64 n])] [(false, [(false, .str r)])] := by
  obtain ⟨h1, h2⟩ := chk_K h
  obtain rfl := Option.some.inj h2
  refine ⟨⟨Tryz.f167, Tryz.func167, by kernel_rfl, by kernel_rfl⟩, fun w z vs hj hz hargs => ?_⟩
  obtain ⟨v, L, rfl, rfl, _⟩ := args_one hargs
  refine (Tryz.strconv_Itoa n h1.1 h1.2 w (hJ w hj)).mono ?_
  rintro e w' ⟨rfl, k, os, rfl⟩
  refine ⟨_, z, rfl, resv_one ⟨⟨rfl, rfl, ?_⟩, rfl⟩, fun b h => h, below_grow _ _ (Nat.le_refl _) _ _⟩
  have := Lib.itoa_length_le n h1.1 h1.2
  show (Lib.itoa n).toArray.size ≤ _
  rw [List.size_toArray]
  omega
end Go.Proofs.YtlkgkkacnoaeaaaGreatDoor

namespace Go.Proofs.YtlkgkkacnoaeaaaGreatDoor
theorem x_Compare_ok {a b : ByteArray} {r : Int} (h : x_Compare a b = some r) : Sound Tryz.prog J0 118 [(false, [.str a]), (false, [.str b])] [(false, [(false, .int .i64 r)])] := compare_S h
theorem x_sortStrings_ok {l r : List ByteArray} (h : x_sortStrings l = some r) : SoundH Tryz.prog J0 JF0 146 (.row 9 1 (l.map eStr)) [] [] (.row 9 1 (r.map eStr)) := sortStrings_H h
theorem x_Atoi_ok {s : ByteArray} {r : Int × Bool} (h : x_Atoi s = some r) : Sound Tryz.prog J0 159 [(false, [.str s])] [(false, [(false, .int .i64 r.1)]), (false, [(false, .ifc r.2)])] := atoi_S j0_err h
theorem x_Itoa_ok {n : Int} {r : ByteArray} (h : x_Itoa n = some r) : Sound Tryz.prog J0 167 [(false, [.int .i64 n])] [(false, [(false, .str r)])] := itoa_S j0_pow h
end Go.Proofs.YtlkgkkacnoaeaaaGreatDoor

namespace Go.Proofs.YtlkgkkacnoaeaaaGreatDoor
open Go.Proofs.Tryz
open Int renaming reduceLT → qa, reduceLE → qb, reduceBEq → qc, reduceBNe → qd
open Nat renaming reduceBNe → qe, reduceAdd → qf, reduceMul → qg, reduceEqDiff → qh, reduceLeDiff → qi, reduceLT → qj, reduceBEq → qk
set_option linter.unusedSimpArgs false
set_option linter.unusedVariables false
set_option maxRecDepth 1000000
set_option maxHeartbeats 4000000
theorem s_FindRule_ok {l_0 : (List RuleD)} {name_1 : ByteArray} {r : Int} (h : s_FindRule l_0 name_1 = some r) : Sound Tryz.prog J0 21 [(false, [.sl 52 4 (List.map eRule l_0)]), (false, [.str name_1])] [(false, [(false, .int .i64 r)])] := by
  refine fnk Tryz.func21 (by kernel_rfl) rfl (by kernel_rfl) (by kernel_rfl) ?_
  unfold s_FindRule at h
  simp only [fnS, f21, argSt, go_sem, qa, qb, qc, qd, qe, qf, qg, qh, qi, qj, qk, reduceCtorEq, reduceIte]
  refine swp_for h (fun i _ st => IV [(0, .p false [.c (.sl 52 4 (List.map eRule l_0))]), (1, .p false [.c (.str name_1)]), (5, .p false [.c (.int .i64 ((i : Nat) : Int))])] [] st) [] [] (by decide) ?_ ?_ ?_
  · simp only [go_sem, qa, qb, qc, qd, qe, qf, qg, qh, qi, qj, qk, reduceCtorEq, reduceIte, IV, sts_cons, sts_nil, obs_cons, obs_nil]
  · rintro i4 x5 ⟨⟩ ⟨sl, ob, n⟩ y1 hx2 hI3 hW4 h hy1
    simp only [IV, sts_cons, sts_nil, obs_cons, obs_nil, and_true, true_and, Nat.reduceAdd, str_len] at hI3
    obtain ⟨⟨g5_0, g5_1, g5_5⟩, hn⟩ := hI3
    subst hn
    have hlhx2 := WF.slotL hW4 g5_0 (j := 0) rfl
    try simp only [go_sem, qa, qb, qc, qd, qe, qf, qg, qh, qi, qj, qk, reduceCtorEq, reduceIte, hx2, lt_t hx2, lt_p hx2, nat_in (lt_n hx2) hlhx2, g5_0, g5_1, g5_5]
    refine ite_K h (fun c6 h => ?_) (fun c6 h => ?_)
    · replace h := inr_K h hy1
      obtain rfl := Option.some.inj h
      try simp only [go_sem, qa, qb, qc, qd, qe, qf, qg, qh, qi, qj, qk, reduceCtorEq, reduceIte, hx2, lt_t hx2, lt_p hx2, nat_in (lt_n hx2) hlhx2, c6, g5_0, g5_1, g5_5]
    · try simp only [go_sem, qa, qb, qc, qd, qe, qf, qg, qh, qi, qj, qk, reduceCtorEq, reduceIte, hx2, lt_t hx2, lt_p hx2, nat_in (lt_n hx2) hlhx2, c6, g5_0, g5_1, g5_5]
      refine ⟨_, [], [], (Option.some.inj h).symm, by decide, ?_⟩
      try simp only [go_sem, qa, qb, qc, qd, qe, qf, qg, qh, qi, qj, qk, reduceCtorEq, reduceIte, hx2, lt_t hx2, lt_p hx2, nat_in (lt_n hx2) hlhx2, c6, g5_0, g5_1, g5_5, IV, sts_cons, sts_nil, obs_cons, obs_nil]
  · rintro ⟨⟩ ⟨sl, ob, n⟩ hI7 hW8 h
    simp only [IV, sts_cons, sts_nil, obs_cons, obs_nil, and_true, true_and, Nat.reduceAdd, str_len] at hI7
    obtain ⟨⟨g9_0, g9_1, g9_5⟩, hn⟩ := hI7
    subst hn
    obtain rfl := Option.some.inj h
    try simp only [go_sem, qa, qb, qc, qd, qe, qf, qg, qh, qi, qj, qk, reduceCtorEq, reduceIte, lt_f (l_0.length), g9_0, g9_1, g9_5]
theorem s_l1In_ok {x_0 : Int} {least_1 : Int} {most_2 : Int} {r : Bool} (h : s_l1In x_0 least_1 most_2 = some r) : Sound Tryz.prog J0 94 [(false, [.int .i64 x_0]), (false, [.int .i64 least_1]), (false, [.int .i64 most_2])] [(false, [(false, .bool r)])] := by
  refine fnk Tryz.func94 (by kernel_rfl) rfl (by kernel_rfl) (by kernel_rfl) ?_
  unfold s_l1In at h
  simp only [fnS, f94, argSt, go_sem, qa, qb, qc, qd, qe, qf, qg, qh, qi, qj, qk, reduceCtorEq, reduceIte]
  refine ite_K h (fun c1 h => ?_) (fun c1 h => ?_)
  · obtain rfl := Option.some.inj h
    try simp only [go_sem, qa, qb, qc, qd, qe, qf, qg, qh, qi, qj, qk, reduceCtorEq, reduceIte, c1]
  · obtain rfl := Option.some.inj h
    try simp only [go_sem, qa, qb, qc, qd, qe, qf, qg, qh, qi, qj, qk, reduceCtorEq, reduceIte, c1]
theorem s_l1Put_ok {l_0 : (List ByteArray)} {s_1 : ByteArray} {r : (List ByteArray)} (h : s_l1Put l_0 s_1 = some r) : Sound Tryz.prog J0 127 [(false, [.sl 9 1 (List.map eStr l_0)]), (false, [.str s_1])] [(false, [(false, .sl 9 1 (List.map eStr r))])] := by
  refine fnk Tryz.func127 (by kernel_rfl) rfl (by kernel_rfl) (by kernel_rfl) ?_
  unfold s_l1Put at h
  simp only [fnS, f127, argSt, go_sem, qa, qb, qc, qd, qe, qf, qg, qh, qi, qj, qk, reduceCtorEq, reduceIte]
  refine swp_for h (fun i s st => match s with | (row_2, done_5) => IV [(0, .p false [.c (.sl 9 1 (List.map eStr l_0))]), (1, .p false [.c (.str s_1)]), (5, .p false [.row 0]), (6, .p false [.c (.bool done_5)]), (7, .p false [.c (.int .i64 ((i : Nat) : Int))])] [.row 9 1 (List.map eStr row_2) 2] st) [] [16] (by decide) ?_ ?_ ?_
  · simp only [go_sem, qa, qb, qc, qd, qe, qf, qg, qh, qi, qj, qk, reduceCtorEq, reduceIte, IV, sts_cons, sts_nil, obs_cons, obs_nil]
  · rintro i8 x9 ⟨row_2, done_5⟩ ⟨sl, ob, n⟩ y1 hx2 hI3 hW4 h hy1
    simp only [IV, sts_cons, sts_nil, obs_cons, obs_nil, and_true, true_and, Nat.reduceAdd, str_len] at hI3
    obtain ⟨⟨g5_0, g5_1, g5_5, g5_6, g5_7⟩, og5_0, hn⟩ := hI3
    subst hn
    have hlhx2 := WF.slotL hW4 g5_0 (j := 0) rfl
    try simp only [go_sem, qa, qb, qc, qd, qe, qf, qg, qh, qi, qj, qk, reduceCtorEq, reduceIte, hx2, lt_t hx2, lt_p hx2, nat_in (lt_n hx2) hlhx2, g5_0, g5_1, g5_5, g5_6, g5_7, og5_0]
    refine ite_K h (fun c6 h => ?_) (fun c6 h => ?_)
    · obtain ⟨p7, h⟩ := chk_K h
      try simp only [Nat.reduceLeDiff] at p7
      try simp only [go_sem, qa, qb, qc, qd, qe, qf, qg, qh, qi, qj, qk, reduceCtorEq, reduceIte, hx2, lt_t hx2, lt_p hx2, nat_in (lt_n hx2) hlhx2, c6, p7, g5_0, g5_1, g5_5, g5_6, g5_7, og5_0]
      refine ⟨_, [], [321], (Option.some.inj h).symm, by decide, ?_⟩
      try simp only [go_sem, qa, qb, qc, qd, qe, qf, qg, qh, qi, qj, qk, reduceCtorEq, reduceIte, hx2, lt_t hx2, lt_p hx2, nat_in (lt_n hx2) hlhx2, c6, p7, g5_0, g5_1, g5_5, g5_6, g5_7, og5_0, IV, sts_cons, sts_nil, obs_cons, obs_nil]
    · try simp only [go_sem, qa, qb, qc, qd, qe, qf, qg, qh, qi, qj, qk, reduceCtorEq, reduceIte, hx2, lt_t hx2, lt_p hx2, nat_in (lt_n hx2) hlhx2, c6, g5_0, g5_1, g5_5, g5_6, g5_7, og5_0]
      refine ite_K h (fun c8 h => ?_) (fun c8 h => ?_)
      · obtain ⟨p9, h⟩ := chk_K h
        try simp only [Nat.reduceLeDiff] at p9
        try simp only [go_sem, qa, qb, qc, qd, qe, qf, qg, qh, qi, qj, qk, reduceCtorEq, reduceIte, hx2, lt_t hx2, lt_p hx2, nat_in (lt_n hx2) hlhx2, c6, c8, p9, g5_0, g5_1, g5_5, g5_6, g5_7, og5_0]
        refine ⟨_, [], [321], (Option.some.inj h).symm, by decide, ?_⟩
        try simp only [go_sem, qa, qb, qc, qd, qe, qf, qg, qh, qi, qj, qk, reduceCtorEq, reduceIte, hx2, lt_t hx2, lt_p hx2, nat_in (lt_n hx2) hlhx2, c6, c8, p9, g5_0, g5_1, g5_5, g5_6, g5_7, og5_0, IV, sts_cons, sts_nil, obs_cons, obs_nil]
      · try simp only [go_sem, qa, qb, qc, qd, qe, qf, qg, qh, qi, qj, qk, reduceCtorEq, reduceIte, hx2, lt_t hx2, lt_p hx2, nat_in (lt_n hx2) hlhx2, c6, c8, g5_0, g5_1, g5_5, g5_6, g5_7, og5_0]
        refine ite_K h (fun c10 h => ?_) (fun c10 h => ?_)
        · obtain ⟨p11, h⟩ := chk_K h
          try simp only [Nat.reduceLeDiff] at p11
          try simp only [go_sem, qa, qb, qc, qd, qe, qf, qg, qh, qi, qj, qk, reduceCtorEq, reduceIte, hx2, lt_t hx2, lt_p hx2, nat_in (lt_n hx2) hlhx2, c6, c8, c10, p11, g5_0, g5_1, g5_5, g5_6, g5_7, og5_0]
          refine ⟨_, [], [433], (Option.some.inj h).symm, by decide, ?_⟩
          try simp only [go_sem, qa, qb, qc, qd, qe, qf, qg, qh, qi, qj, qk, reduceCtorEq, reduceIte, hx2, lt_t hx2, lt_p hx2, nat_in (lt_n hx2) hlhx2, c6, c8, c10, p11, g5_0, g5_1, g5_5, g5_6, g5_7, og5_0, IV, sts_cons, sts_nil, obs_cons, obs_nil]
        · obtain ⟨p12, h⟩ := chk_K h
          try simp only [Nat.reduceLeDiff] at p12
          obtain ⟨p13, h⟩ := chk_K h
          try simp only [Nat.reduceLeDiff] at p13
          try simp only [go_sem, qa, qb, qc, qd, qe, qf, qg, qh, qi, qj, qk, reduceCtorEq, reduceIte, hx2, lt_t hx2, lt_p hx2, nat_in (lt_n hx2) hlhx2, c6, c8, c10, p12, p13, g5_0, g5_1, g5_5, g5_6, g5_7, og5_0]
          refine ⟨_, [], [513], (Option.some.inj h).symm, by decide, ?_⟩
          try simp only [go_sem, qa, qb, qc, qd, qe, qf, qg, qh, qi, qj, qk, reduceCtorEq, reduceIte, hx2, lt_t hx2, lt_p hx2, nat_in (lt_n hx2) hlhx2, c6, c8, c10, p12, p13, g5_0, g5_1, g5_5, g5_6, g5_7, og5_0, IV, sts_cons, sts_nil, obs_cons, obs_nil]
  · rintro ⟨row_2, done_5⟩ ⟨sl, ob, n⟩ hI14 hW15 h
    simp only [IV, sts_cons, sts_nil, obs_cons, obs_nil, and_true, true_and, Nat.reduceAdd, str_len] at hI14
    obtain ⟨⟨g16_0, g16_1, g16_5, g16_6, g16_7⟩, og16_0, hn⟩ := hI14
    subst hn
    try simp only [go_sem, qa, qb, qc, qd, qe, qf, qg, qh, qi, qj, qk, reduceCtorEq, reduceIte, lt_f (l_0.length), g16_0, g16_1, g16_5, g16_6, g16_7, og16_0]
    refine ite_K h (fun c17 h => ?_) (fun c17 h => ?_)
    · obtain rfl := Option.some.inj h
      try simp only [go_sem, qa, qb, qc, qd, qe, qf, qg, qh, qi, qj, qk, reduceCtorEq, reduceIte, lt_f (l_0.length), c17, g16_0, g16_1, g16_5, g16_6, g16_7, og16_0]
    · obtain ⟨p18, h⟩ := chk_K h
      try simp only [Nat.reduceLeDiff] at p18
      obtain rfl := Option.some.inj h
      try simp only [go_sem, qa, qb, qc, qd, qe, qf, qg, qh, qi, qj, qk, reduceCtorEq, reduceIte, lt_f (l_0.length), c17, p18, g16_0, g16_1, g16_5, g16_6, g16_7, og16_0]
theorem s_l1HasText_ok {l_0 : (List ByteArray)} {s_1 : ByteArray} {r : Bool} (h : s_l1HasText l_0 s_1 = some r) : Sound Tryz.prog J0 98 [(false, [.sl 9 1 (List.map eStr l_0)]), (false, [.str s_1])] [(false, [(false, .bool r)])] := by
  refine fnk Tryz.func98 (by kernel_rfl) rfl (by kernel_rfl) (by kernel_rfl) ?_
  unfold s_l1HasText at h
  simp only [fnS, f98, argSt, go_sem, qa, qb, qc, qd, qe, qf, qg, qh, qi, qj, qk, reduceCtorEq, reduceIte]
  refine swp_for h (fun i _ st => IV [(0, .p false [.c (.sl 9 1 (List.map eStr l_0))]), (1, .p false [.c (.str s_1)]), (5, .p false [.c (.int .i64 ((i : Nat) : Int))])] [] st) [] [] (by decide) ?_ ?_ ?_
  · simp only [go_sem, qa, qb, qc, qd, qe, qf, qg, qh, qi, qj, qk, reduceCtorEq, reduceIte, IV, sts_cons, sts_nil, obs_cons, obs_nil]
  · rintro i4 x5 ⟨⟩ ⟨sl, ob, n⟩ y1 hx2 hI3 hW4 h hy1
    simp only [IV, sts_cons, sts_nil, obs_cons, obs_nil, and_true, true_and, Nat.reduceAdd, str_len] at hI3
    obtain ⟨⟨g5_0, g5_1, g5_5⟩, hn⟩ := hI3
    subst hn
    have hlhx2 := WF.slotL hW4 g5_0 (j := 0) rfl
    try simp only [go_sem, qa, qb, qc, qd, qe, qf, qg, qh, qi, qj, qk, reduceCtorEq, reduceIte, hx2, lt_t hx2, lt_p hx2, nat_in (lt_n hx2) hlhx2, g5_0, g5_1, g5_5]
    refine ite_K h (fun c6 h => ?_) (fun c6 h => ?_)
    · replace h := inr_K h hy1
      obtain rfl := Option.some.inj h
      try simp only [go_sem, qa, qb, qc, qd, qe, qf, qg, qh, qi, qj, qk, reduceCtorEq, reduceIte, hx2, lt_t hx2, lt_p hx2, nat_in (lt_n hx2) hlhx2, c6, g5_0, g5_1, g5_5]
    · try simp only [go_sem, qa, qb, qc, qd, qe, qf, qg, qh, qi, qj, qk, reduceCtorEq, reduceIte, hx2, lt_t hx2, lt_p hx2, nat_in (lt_n hx2) hlhx2, c6, g5_0, g5_1, g5_5]
      refine ⟨_, [], [], (Option.some.inj h).symm, by decide, ?_⟩
      try simp only [go_sem, qa, qb, qc, qd, qe, qf, qg, qh, qi, qj, qk, reduceCtorEq, reduceIte, hx2, lt_t hx2, lt_p hx2, nat_in (lt_n hx2) hlhx2, c6, g5_0, g5_1, g5_5, IV, sts_cons, sts_nil, obs_cons, obs_nil]
  · rintro ⟨⟩ ⟨sl, ob, n⟩ hI7 hW8 h
    simp only [IV, sts_cons, sts_nil, obs_cons, obs_nil, and_true, true_and, Nat.reduceAdd, str_len] at hI7
    obtain ⟨⟨g9_0, g9_1, g9_5⟩, hn⟩ := hI7
    subst hn
    obtain rfl := Option.some.inj h
    try simp only [go_sem, qa, qb, qc, qd, qe, qf, qg, qh, qi, qj, qk, reduceCtorEq, reduceIte, lt_f (l_0.length), g9_0, g9_1, g9_5]
theorem s_l1Cmp_ok {a_0 : ByteArray} {b_1 : ByteArray} {r : Int} (h : s_l1Cmp a_0 b_1 = some r) : Sound Tryz.prog J0 104 [(false, [.str a_0]), (false, [.str b_1])] [(false, [(false, .int .i64 r)])] := by
  refine fnk Tryz.func104 (by kernel_rfl) rfl (by kernel_rfl) (by kernel_rfl) ?_
  unfold s_l1Cmp at h
  simp only [fnS, f104, argSt, go_sem, qa, qb, qc, qd, qe, qf, qg, qh, qi, qj, qk, reduceCtorEq, reduceIte]
  refine ite_K h (fun c1 h => ?_) (fun c1 h => ?_)
  · obtain rfl := Option.some.inj h
    try simp only [go_sem, qa, qb, qc, qd, qe, qf, qg, qh, qi, qj, qk, reduceCtorEq, reduceIte, c1]
  · try simp only [go_sem, qa, qb, qc, qd, qe, qf, qg, qh, qi, qj, qk, reduceCtorEq, reduceIte, c1]
    refine ite_K h (fun c2 h => ?_) (fun c2 h => ?_)
    · have c2' := c2
      try simp only [c1, Bool.false_or, Bool.or_false] at c2'
      obtain rfl := Option.some.inj h
      try simp only [go_sem, qa, qb, qc, qd, qe, qf, qg, qh, qi, qj, qk, reduceCtorEq, reduceIte, c1, c2, c2']
    · have c2' := c2
      try simp only [c1, Bool.false_or, Bool.or_false] at c2'
      obtain rfl := Option.some.inj h
      try simp only [go_sem, qa, qb, qc, qd, qe, qf, qg, qh, qi, qj, qk, reduceCtorEq, reduceIte, c1, c2, c2']
theorem s_FormatInt_0_ok {n_0 : Int} {r : ByteArray} (h : s_FormatInt_0 n_0 = some r) : Sound Tryz.prog J0 156 [(false, [.int .i64 n_0])] [(false, [(false, .str r)])] := by
  refine fnk Tryz.func156 (by kernel_rfl) rfl (by kernel_rfl) (by kernel_rfl) ?_
  unfold s_FormatInt_0 at h
  have ks0 : strOk ⟨#[45, 57, 50, 50, 51, 51, 55, 50, 48, 51, 54, 56, 53, 52, 55, 55, 53, 56, 48, 56]⟩ = true := by decide
  have ks1 : strOk ⟨#[]⟩ = true := by decide
  have kz0 : ¬ ((10 : Int) = 0) := by decide
  simp only [fnS, f156, argSt, go_sem, qa, qb, qc, qd, qe, qf, qg, qh, qi, qj, qk, reduceCtorEq, reduceIte, ks0, ks1, kz0]
  refine ite_K h (fun c1 h => ?_) (fun c1 h => ?_)
  · obtain rfl := Option.some.inj h
    try simp only [go_sem, qa, qb, qc, qd, qe, qf, qg, qh, qi, qj, qk, reduceCtorEq, reduceIte, ks0, ks1, kz0, c1]
  · try simp only [go_sem, qa, qb, qc, qd, qe, qf, qg, qh, qi, qj, qk, reduceCtorEq, reduceIte, ks0, ks1, kz0, c1]
    refine ite_K h (fun c2 h => ?_) (fun c2 h => ?_)
    · cases h
    · try simp only [go_sem, qa, qb, qc, qd, qe, qf, qg, qh, qi, qj, qk, reduceCtorEq, reduceIte, ks0, ks1, kz0, c1, c2]
      refine swp_iter h (fun s st => match s with | (n_1, s_2) => IV [(0, .p false [.c (.int .i64 n_1)]), (3, .p false [.c (.str s_2)])] [] st) [] [] (by decide) ?_ ?_
      · simp only [go_sem, qa, qb, qc, qd, qe, qf, qg, qh, qi, qj, qk, reduceCtorEq, reduceIte, IV, sts_cons, sts_nil, obs_cons, obs_nil, ks0, ks1, kz0, c1, c2]
      · rintro ⟨n_1, s_2⟩ ⟨sl, ob, n⟩ y3 hI4 hW5 h hy3
        simp only [IV, sts_cons, sts_nil, obs_cons, obs_nil, and_true, true_and, Nat.reduceAdd, str_len] at hI4
        obtain ⟨⟨g6_0, g6_3⟩, hn⟩ := hI4
        subst hn
        obtain ⟨p7, h⟩ := chk_K h
        try simp only [Nat.reduceLeDiff] at p7
        try simp only [go_sem] at p7
        try simp only [go_sem, qa, qb, qc, qd, qe, qf, qg, qh, qi, qj, qk, reduceCtorEq, reduceIte, ks0, ks1, kz0, c1, c2, p7, g6_0, g6_3]
        refine ite_K h (fun c8 h => ?_) (fun c8 h => ?_)
        · replace h := inr_K h hy3
          obtain rfl := Option.some.inj h
          try simp only [go_sem, qa, qb, qc, qd, qe, qf, qg, qh, qi, qj, qk, reduceCtorEq, reduceIte, ks0, ks1, kz0, c1, c2, p7, c8, g6_0, g6_3]
        · try simp only [go_sem, qa, qb, qc, qd, qe, qf, qg, qh, qi, qj, qk, reduceCtorEq, reduceIte, ks0, ks1, kz0, c1, c2, p7, c8, g6_0, g6_3]
          refine ⟨_, [], [], (Option.some.inj h).symm, by decide, ?_⟩
          try simp only [go_sem, qa, qb, qc, qd, qe, qf, qg, qh, qi, qj, qk, reduceCtorEq, reduceIte, ks0, ks1, kz0, c1, c2, p7, c8, g6_0, g6_3, IV, sts_cons, sts_nil, obs_cons, obs_nil]
theorem s_FormatInt_ok {n_0 : Int} {r : ByteArray} (h : s_FormatInt n_0 = some r) : Sound Tryz.prog J0 156 [(false, [.int .i64 n_0])] [(false, [(false, .str r)])] := by
  refine fnk Tryz.func156 (by kernel_rfl) rfl (by kernel_rfl) (by kernel_rfl) ?_
  unfold s_FormatInt at h
  have ks0 : strOk ⟨#[45, 57, 50, 50, 51, 51, 55, 50, 48, 51, 54, 56, 53, 52, 55, 55, 53, 56, 48, 56]⟩ = true := by decide
  have ks1 : strOk ⟨#[45]⟩ = true := by decide
  have ks2 : strOk ⟨#[]⟩ = true := by decide
  have kz0 : ¬ ((10 : Int) = 0) := by decide
  simp only [fnS, f156, argSt, go_sem, qa, qb, qc, qd, qe, qf, qg, qh, qi, qj, qk, reduceCtorEq, reduceIte, ks0, ks1, ks2, kz0]
  refine ite_K h (fun c1 h => ?_) (fun c1 h => ?_)
  · obtain rfl := Option.some.inj h
    try simp only [go_sem, qa, qb, qc, qd, qe, qf, qg, qh, qi, qj, qk, reduceCtorEq, reduceIte, ks0, ks1, ks2, kz0, c1]
  · try simp only [go_sem, qa, qb, qc, qd, qe, qf, qg, qh, qi, qj, qk, reduceCtorEq, reduceIte, ks0, ks1, ks2, kz0, c1]
    refine ite_K h (fun c2 h => ?_) (fun c2 h => ?_)
    · try simp only [go_sem, qa, qb, qc, qd, qe, qf, qg, qh, qi, qj, qk, reduceCtorEq, reduceIte, ks0, ks1, ks2, kz0, c1, c2]
      obtain ⟨v1, e3, h⟩ := bind_K h
      refine call_K (by first | exact s_FormatInt_0_ok e3 | simpa only [go_sem, qa, qb, qc, qd, qe, qf, qg, qh, qi, qj, qk, reduceCtorEq, reduceIte, ks0, ks1, ks2, kz0, c1, c2] using s_FormatInt_0_ok e3) ?_
      obtain ⟨p4, h⟩ := chk_K h
      try simp only [Nat.reduceLeDiff] at p4
      try simp only [go_sem] at p4
      obtain rfl := Option.some.inj h
      try simp only [go_sem, qa, qb, qc, qd, qe, qf, qg, qh, qi, qj, qk, reduceCtorEq, reduceIte, ks0, ks1, ks2, kz0, c1, c2, p4]
    · try simp only [go_sem, qa, qb, qc, qd, qe, qf, qg, qh, qi, qj, qk, reduceCtorEq, reduceIte, ks0, ks1, ks2, kz0, c1, c2]
      refine swp_iter h (fun s st => match s with | (n_2, s_3) => IV [(0, .p false [.c (.int .i64 n_2)]), (3, .p false [.c (.str s_3)])] [] st) [] [] (by decide) ?_ ?_
      · simp only [go_sem, qa, qb, qc, qd, qe, qf, qg, qh, qi, qj, qk, reduceCtorEq, reduceIte, IV, sts_cons, sts_nil, obs_cons, obs_nil, ks0, ks1, ks2, kz0, c1, c2]
      · rintro ⟨n_2, s_3⟩ ⟨sl, ob, n⟩ y5 hI6 hW7 h hy5
        simp only [IV, sts_cons, sts_nil, obs_cons, obs_nil, and_true, true_and, Nat.reduceAdd, str_len] at hI6
        obtain ⟨⟨g8_0, g8_3⟩, hn⟩ := hI6
        subst hn
        obtain ⟨p9, h⟩ := chk_K h
        try simp only [Nat.reduceLeDiff] at p9
        try simp only [go_sem] at p9
        try simp only [go_sem, qa, qb, qc, qd, qe, qf, qg, qh, qi, qj, qk, reduceCtorEq, reduceIte, ks0, ks1, ks2, kz0, c1, c2, p9, g8_0, g8_3]
        refine ite_K h (fun c10 h => ?_) (fun c10 h => ?_)
        · replace h := inr_K h hy5
          obtain rfl := Option.some.inj h
          try simp only [go_sem, qa, qb, qc, qd, qe, qf, qg, qh, qi, qj, qk, reduceCtorEq, reduceIte, ks0, ks1, ks2, kz0, c1, c2, p9, c10, g8_0, g8_3]
        · try simp only [go_sem, qa, qb, qc, qd, qe, qf, qg, qh, qi, qj, qk, reduceCtorEq, reduceIte, ks0, ks1, ks2, kz0, c1, c2, p9, c10, g8_0, g8_3]
          refine ⟨_, [], [], (Option.some.inj h).symm, by decide, ?_⟩
          try simp only [go_sem, qa, qb, qc, qd, qe, qf, qg, qh, qi, qj, qk, reduceCtorEq, reduceIte, ks0, ks1, ks2, kz0, c1, c2, p9, c10, g8_0, g8_3, IV, sts_cons, sts_nil, obs_cons, obs_nil]
theorem s_l1Texts_ok {l_0 : (List ByteArray)} {r : (List ByteArray)} (h : s_l1Texts l_0 = some r) : Sound Tryz.prog J0 129 [(false, [.sl 9 1 (List.map eStr l_0)])] [(false, [(false, .sl 9 1 (List.map eStr r))])] := by
  refine fnk Tryz.func129 (by kernel_rfl) rfl (by kernel_rfl) (by kernel_rfl) ?_
  unfold s_l1Texts at h
  simp only [fnS, f129, argSt, go_sem, qa, qb, qc, qd, qe, qf, qg, qh, qi, qj, qk, reduceCtorEq, reduceIte]
  obtain ⟨p1, h⟩ := chk_K h
  try simp only [Nat.reduceLeDiff] at p1
  obtain rfl := Option.some.inj h
  try simp only [go_sem, qa, qb, qc, qd, qe, qf, qg, qh, qi, qj, qk, reduceCtorEq, reduceIte, p1]
theorem s_l3Copy_ok {b_0 : (List PairD)} {r : (List PairD)} (h : s_l3Copy b_0 = some r) : Sound Tryz.prog J0 152 [(false, [.sl 119 2 (List.map ePair b_0)])] [(false, [(false, .sl 119 2 (List.map ePair r))])] := by
  refine fnk Tryz.func152 (by kernel_rfl) rfl (by kernel_rfl) (by kernel_rfl) ?_
  unfold s_l3Copy at h
  simp only [fnS, f152, argSt, go_sem, qa, qb, qc, qd, qe, qf, qg, qh, qi, qj, qk, reduceCtorEq, reduceIte]
  obtain ⟨p1, h⟩ := chk_K h
  try simp only [Nat.reduceLeDiff] at p1
  obtain rfl := Option.some.inj h
  try simp only [go_sem, qa, qb, qc, qd, qe, qf, qg, qh, qi, qj, qk, reduceCtorEq, reduceIte, p1]
theorem s_l3Set_ok {b_0 : (List PairD)} {v_1 : ByteArray} {value_2 : ByteArray} {r : (List PairD)} (h : s_l3Set b_0 v_1 value_2 = some r) : Sound Tryz.prog J0 162 [(false, [.sl 119 2 (List.map ePair b_0)]), (false, [.str v_1]), (false, [.str value_2])] [(false, [(false, .sl 119 2 (List.map ePair r))])] := by
  refine fnk Tryz.func162 (by kernel_rfl) rfl (by kernel_rfl) (by kernel_rfl) ?_
  unfold s_l3Set at h
  simp only [fnS, f162, argSt, go_sem, qa, qb, qc, qd, qe, qf, qg, qh, qi, qj, qk, reduceCtorEq, reduceIte]
  refine swp_for h (fun i s st => match s with | (row_2, done_5) => IV [(0, .p false [.c (.sl 119 2 (List.map ePair b_0))]), (1, .p false [.c (.str v_1)]), (2, .p false [.c (.str value_2)]), (7, .p false [.row 0]), (8, .p false [.c (.bool done_5)]), (9, .p false [.c (.int .i64 ((i : Nat) : Int))])] [.row 119 2 (List.map ePair row_2) 2] st) [] [16] (by decide) ?_ ?_ ?_
  · simp only [go_sem, qa, qb, qc, qd, qe, qf, qg, qh, qi, qj, qk, reduceCtorEq, reduceIte, IV, sts_cons, sts_nil, obs_cons, obs_nil]
  · rintro i8 x9 ⟨row_2, done_5⟩ ⟨sl, ob, n⟩ y1 hx2 hI3 hW4 h hy1
    simp only [IV, sts_cons, sts_nil, obs_cons, obs_nil, and_true, true_and, Nat.reduceAdd, str_len] at hI3
    obtain ⟨⟨g5_0, g5_1, g5_2, g5_7, g5_8, g5_9⟩, og5_0, hn⟩ := hI3
    subst hn
    have hlhx2 := WF.slotL hW4 g5_0 (j := 0) rfl
    try simp only [go_sem, qa, qb, qc, qd, qe, qf, qg, qh, qi, qj, qk, reduceCtorEq, reduceIte, hx2, lt_t hx2, lt_p hx2, nat_in (lt_n hx2) hlhx2, g5_0, g5_1, g5_2, g5_7, g5_8, g5_9, og5_0]
    refine ite_K h (fun c6 h => ?_) (fun c6 h => ?_)
    · obtain ⟨p7, h⟩ := chk_K h
      try simp only [Nat.reduceLeDiff] at p7
      try simp only [go_sem, qa, qb, qc, qd, qe, qf, qg, qh, qi, qj, qk, reduceCtorEq, reduceIte, hx2, lt_t hx2, lt_p hx2, nat_in (lt_n hx2) hlhx2, c6, p7, g5_0, g5_1, g5_2, g5_7, g5_8, g5_9, og5_0]
      refine ⟨_, [], [337], (Option.some.inj h).symm, by decide, ?_⟩
      try simp only [go_sem, qa, qb, qc, qd, qe, qf, qg, qh, qi, qj, qk, reduceCtorEq, reduceIte, hx2, lt_t hx2, lt_p hx2, nat_in (lt_n hx2) hlhx2, c6, p7, g5_0, g5_1, g5_2, g5_7, g5_8, g5_9, og5_0, IV, sts_cons, sts_nil, obs_cons, obs_nil]
    · try simp only [go_sem, qa, qb, qc, qd, qe, qf, qg, qh, qi, qj, qk, reduceCtorEq, reduceIte, hx2, lt_t hx2, lt_p hx2, nat_in (lt_n hx2) hlhx2, c6, g5_0, g5_1, g5_2, g5_7, g5_8, g5_9, og5_0]
      refine ite_K h (fun c8 h => ?_) (fun c8 h => ?_)
      · have c8' := c8
        try simp only [c6, Bool.false_or, Bool.or_false] at c8'
        obtain ⟨p9, h⟩ := chk_K h
        try simp only [Nat.reduceLeDiff] at p9
        try simp only [go_sem, qa, qb, qc, qd, qe, qf, qg, qh, qi, qj, qk, reduceCtorEq, reduceIte, hx2, lt_t hx2, lt_p hx2, nat_in (lt_n hx2) hlhx2, c6, c8, c8', p9, g5_0, g5_1, g5_2, g5_7, g5_8, g5_9, og5_0]
        refine ⟨_, [], [337], (Option.some.inj h).symm, by decide, ?_⟩
        try simp only [go_sem, qa, qb, qc, qd, qe, qf, qg, qh, qi, qj, qk, reduceCtorEq, reduceIte, hx2, lt_t hx2, lt_p hx2, nat_in (lt_n hx2) hlhx2, c6, c8, c8', p9, g5_0, g5_1, g5_2, g5_7, g5_8, g5_9, og5_0, IV, sts_cons, sts_nil, obs_cons, obs_nil]
      · have c8' := c8
        try simp only [c6, Bool.false_or, Bool.or_false] at c8'
        obtain ⟨p10, h⟩ := chk_K h
        try simp only [Nat.reduceLeDiff] at p10
        obtain ⟨p11, h⟩ := chk_K h
        try simp only [Nat.reduceLeDiff] at p11
        try simp only [go_sem, qa, qb, qc, qd, qe, qf, qg, qh, qi, qj, qk, reduceCtorEq, reduceIte, hx2, lt_t hx2, lt_p hx2, nat_in (lt_n hx2) hlhx2, c6, c8, c8', p10, p11, g5_0, g5_1, g5_2, g5_7, g5_8, g5_9, og5_0]
        refine ⟨_, [], [465], (Option.some.inj h).symm, by decide, ?_⟩
        try simp only [go_sem, qa, qb, qc, qd, qe, qf, qg, qh, qi, qj, qk, reduceCtorEq, reduceIte, hx2, lt_t hx2, lt_p hx2, nat_in (lt_n hx2) hlhx2, c6, c8, c8', p10, p11, g5_0, g5_1, g5_2, g5_7, g5_8, g5_9, og5_0, IV, sts_cons, sts_nil, obs_cons, obs_nil]
  · rintro ⟨row_2, done_5⟩ ⟨sl, ob, n⟩ hI12 hW13 h
    simp only [IV, sts_cons, sts_nil, obs_cons, obs_nil, and_true, true_and, Nat.reduceAdd, str_len] at hI12
    obtain ⟨⟨g14_0, g14_1, g14_2, g14_7, g14_8, g14_9⟩, og14_0, hn⟩ := hI12
    subst hn
    try simp only [go_sem, qa, qb, qc, qd, qe, qf, qg, qh, qi, qj, qk, reduceCtorEq, reduceIte, lt_f (b_0.length), g14_0, g14_1, g14_2, g14_7, g14_8, g14_9, og14_0]
    refine ite_K h (fun c15 h => ?_) (fun c15 h => ?_)
    · obtain rfl := Option.some.inj h
      try simp only [go_sem, qa, qb, qc, qd, qe, qf, qg, qh, qi, qj, qk, reduceCtorEq, reduceIte, lt_f (b_0.length), c15, g14_0, g14_1, g14_2, g14_7, g14_8, g14_9, og14_0]
    · obtain ⟨p16, h⟩ := chk_K h
      try simp only [Nat.reduceLeDiff] at p16
      obtain rfl := Option.some.inj h
      try simp only [go_sem, qa, qb, qc, qd, qe, qf, qg, qh, qi, qj, qk, reduceCtorEq, reduceIte, lt_f (b_0.length), c15, p16, g14_0, g14_1, g14_2, g14_7, g14_8, g14_9, og14_0]
theorem s_l1SameTexts_ok {a_0 : (List ByteArray)} {b_1 : (List ByteArray)} {r : Bool} (h : s_l1SameTexts a_0 b_1 = some r) : Sound Tryz.prog J0 93 [(false, [.sl 9 1 (List.map eStr a_0)]), (false, [.sl 9 1 (List.map eStr b_1)])] [(false, [(false, .bool r)])] := by
  refine fnk Tryz.func93 (by kernel_rfl) rfl (by kernel_rfl) (by kernel_rfl) ?_
  unfold s_l1SameTexts at h
  simp only [fnS, f93, argSt, go_sem, qa, qb, qc, qd, qe, qf, qg, qh, qi, qj, qk, reduceCtorEq, reduceIte]
  refine ite_K h (fun c1 h => ?_) (fun c1 h => ?_)
  · obtain rfl := Option.some.inj h
    try simp only [go_sem, qa, qb, qc, qd, qe, qf, qg, qh, qi, qj, qk, reduceCtorEq, reduceIte, c1]
  · try simp only [go_sem, qa, qb, qc, qd, qe, qf, qg, qh, qi, qj, qk, reduceCtorEq, reduceIte, c1]
    refine swp_for h (fun i _ st => IV [(0, .p false [.c (.sl 9 1 (List.map eStr a_0))]), (1, .p false [.c (.sl 9 1 (List.map eStr b_1))]), (5, .p false [.c (.int .i64 ((i : Nat) : Int))])] [] st) [] [] (by decide) ?_ ?_ ?_
    · simp only [go_sem, qa, qb, qc, qd, qe, qf, qg, qh, qi, qj, qk, reduceCtorEq, reduceIte, IV, sts_cons, sts_nil, obs_cons, obs_nil, c1]
    · rintro i6 x7 ⟨⟩ ⟨sl, ob, n⟩ y2 hx3 hI4 hW5 h hy2
      simp only [IV, sts_cons, sts_nil, obs_cons, obs_nil, and_true, true_and, Nat.reduceAdd, str_len] at hI4
      obtain ⟨⟨g6_0, g6_1, g6_5⟩, hn⟩ := hI4
      subst hn
      have hlhx3 := WF.slotL hW5 g6_0 (j := 0) rfl
      obtain ⟨x8, a7, a8, e9, h⟩ := at_K h
      simp only [Int.toNat_natCast] at e9
      try simp only [go_sem, qa, qb, qc, qd, qe, qf, qg, qh, qi, qj, qk, reduceCtorEq, reduceIte, c1, hx3, lt_t hx3, lt_p hx3, nat_in (lt_n hx3) hlhx3, a7, a8, e9, g6_0, g6_1, g6_5]
      refine ite_K h (fun c10 h => ?_) (fun c10 h => ?_)
      · try simp only [go_sem, qa, qb, qc, qd, qe, qf, qg, qh, qi, qj, qk, reduceCtorEq, reduceIte, c1, hx3, lt_t hx3, lt_p hx3, nat_in (lt_n hx3) hlhx3, a7, a8, e9, c10, g6_0, g6_1, g6_5]
        refine ⟨_, [], [], (Option.some.inj h).symm, by decide, ?_⟩
        try simp only [go_sem, qa, qb, qc, qd, qe, qf, qg, qh, qi, qj, qk, reduceCtorEq, reduceIte, c1, hx3, lt_t hx3, lt_p hx3, nat_in (lt_n hx3) hlhx3, a7, a8, e9, c10, g6_0, g6_1, g6_5, IV, sts_cons, sts_nil, obs_cons, obs_nil]
      · replace h := inr_K h hy2
        obtain rfl := Option.some.inj h
        try simp only [go_sem, qa, qb, qc, qd, qe, qf, qg, qh, qi, qj, qk, reduceCtorEq, reduceIte, c1, hx3, lt_t hx3, lt_p hx3, nat_in (lt_n hx3) hlhx3, a7, a8, e9, c10, g6_0, g6_1, g6_5]
    · rintro ⟨⟩ ⟨sl, ob, n⟩ hI11 hW12 h
      simp only [IV, sts_cons, sts_nil, obs_cons, obs_nil, and_true, true_and, Nat.reduceAdd, str_len] at hI11
      obtain ⟨⟨g13_0, g13_1, g13_5⟩, hn⟩ := hI11
      subst hn
      obtain rfl := Option.some.inj h
      try simp only [go_sem, qa, qb, qc, qd, qe, qf, qg, qh, qi, qj, qk, reduceCtorEq, reduceIte, c1, lt_f (a_0.length), g13_0, g13_1, g13_5]
theorem i_IsAtom_ok {s_0 : ByteArray} {r : Bool} (h : i_IsAtom s_0 = some r) : Sound Tryz.prog J0 117 [(false, [.str s_0])] [(false, [(false, .bool r)])] := by
  refine fnk Tryz.func117 (by kernel_rfl) rfl (by kernel_rfl) (by kernel_rfl) ?_
  unfold i_IsAtom at h
  simp only [fnS, f117, argSt, go_sem, qa, qb, qc, qd, qe, qf, qg, qh, qi, qj, qk, reduceCtorEq, reduceIte]
  refine ite_K h (fun c1 h => ?_) (fun c1 h => ?_)
  · obtain rfl := Option.some.inj h
    try simp only [go_sem, qa, qb, qc, qd, qe, qf, qg, qh, qi, qj, qk, reduceCtorEq, reduceIte, c1]
  · try simp only [go_sem, qa, qb, qc, qd, qe, qf, qg, qh, qi, qj, qk, reduceCtorEq, reduceIte, c1]
    refine ite_K h (fun c2 h => ?_) (fun c2 h => ?_)
    · obtain rfl := Option.some.inj h
      try simp only [go_sem, qa, qb, qc, qd, qe, qf, qg, qh, qi, qj, qk, reduceCtorEq, reduceIte, c1, c2]
    · try simp only [go_sem, qa, qb, qc, qd, qe, qf, qg, qh, qi, qj, qk, reduceCtorEq, reduceIte, c1, c2]
      refine swp_for h (fun i _ st => IV [(0, .p false [.c (.str s_0)]), (3, .p false [.c (.int .i64 ((i : Nat) : Int))])] [] st) [] [] (by decide) ?_ ?_ ?_
      · simp only [go_sem, qa, qb, qc, qd, qe, qf, qg, qh, qi, qj, qk, reduceCtorEq, reduceIte, IV, sts_cons, sts_nil, obs_cons, obs_nil, c1, c2]
      · rintro i4 x5 ⟨⟩ ⟨sl, ob, n⟩ y3 hx4 hI5 hW6 h hy3
        simp only [IV, sts_cons, sts_nil, obs_cons, obs_nil, and_true, true_and, Nat.reduceAdd, str_len] at hI5
        obtain ⟨⟨g7_0, g7_3⟩, hn⟩ := hI5
        subst hn
        have hlhx4 := WF.slotS hW6 g7_0 (j := 0) rfl
        try simp only [go_sem, qa, qb, qc, qd, qe, qf, qg, qh, qi, qj, qk, reduceCtorEq, reduceIte, c1, c2, str_at hx4, slt_t hx4, nat_in (slt_n hx4) hlhx4, g7_0, g7_3]
        refine ite_K h (fun c8 h => ?_) (fun c8 h => ?_)
        · try simp only [go_sem, qa, qb, qc, qd, qe, qf, qg, qh, qi, qj, qk, reduceCtorEq, reduceIte, c1, c2, str_at hx4, slt_t hx4, nat_in (slt_n hx4) hlhx4, c8, g7_0, g7_3]
          refine ite_K h (fun c9 h => ?_) (fun c9 h => ?_)
          · replace h := inr_K h hy3
            obtain rfl := Option.some.inj h
            try simp only [go_sem, qa, qb, qc, qd, qe, qf, qg, qh, qi, qj, qk, reduceCtorEq, reduceIte, c1, c2, str_at hx4, slt_t hx4, nat_in (slt_n hx4) hlhx4, c8, c9, g7_0, g7_3]
          · try simp only [go_sem, qa, qb, qc, qd, qe, qf, qg, qh, qi, qj, qk, reduceCtorEq, reduceIte, c1, c2, str_at hx4, slt_t hx4, nat_in (slt_n hx4) hlhx4, c8, c9, g7_0, g7_3]
            refine ite_K h (fun c10 h => ?_) (fun c10 h => ?_)
            · replace h := inr_K h hy3
              obtain rfl := Option.some.inj h
              try simp only [go_sem, qa, qb, qc, qd, qe, qf, qg, qh, qi, qj, qk, reduceCtorEq, reduceIte, c1, c2, str_at hx4, slt_t hx4, nat_in (slt_n hx4) hlhx4, c8, c9, c10, g7_0, g7_3]
            · try simp only [go_sem, qa, qb, qc, qd, qe, qf, qg, qh, qi, qj, qk, reduceCtorEq, reduceIte, c1, c2, str_at hx4, slt_t hx4, nat_in (slt_n hx4) hlhx4, c8, c9, c10, g7_0, g7_3]
              refine ⟨_, [], [], (Option.some.inj h).symm, by decide, ?_⟩
              try simp only [go_sem, qa, qb, qc, qd, qe, qf, qg, qh, qi, qj, qk, reduceCtorEq, reduceIte, c1, c2, str_at hx4, slt_t hx4, nat_in (slt_n hx4) hlhx4, c8, c9, c10, g7_0, g7_3, IV, sts_cons, sts_nil, obs_cons, obs_nil]
        · try simp only [go_sem, qa, qb, qc, qd, qe, qf, qg, qh, qi, qj, qk, reduceCtorEq, reduceIte, c1, c2, str_at hx4, slt_t hx4, nat_in (slt_n hx4) hlhx4, c8, g7_0, g7_3]
          refine ite_K h (fun c11 h => ?_) (fun c11 h => ?_)
          · try simp only [go_sem, qa, qb, qc, qd, qe, qf, qg, qh, qi, qj, qk, reduceCtorEq, reduceIte, c1, c2, str_at hx4, slt_t hx4, nat_in (slt_n hx4) hlhx4, c8, c11, g7_0, g7_3]
            refine ite_K h (fun c12 h => ?_) (fun c12 h => ?_)
            · replace h := inr_K h hy3
              obtain rfl := Option.some.inj h
              try simp only [go_sem, qa, qb, qc, qd, qe, qf, qg, qh, qi, qj, qk, reduceCtorEq, reduceIte, c1, c2, str_at hx4, slt_t hx4, nat_in (slt_n hx4) hlhx4, c8, c11, c12, g7_0, g7_3]
            · try simp only [go_sem, qa, qb, qc, qd, qe, qf, qg, qh, qi, qj, qk, reduceCtorEq, reduceIte, c1, c2, str_at hx4, slt_t hx4, nat_in (slt_n hx4) hlhx4, c8, c11, c12, g7_0, g7_3]
              refine ite_K h (fun c13 h => ?_) (fun c13 h => ?_)
              · replace h := inr_K h hy3
                obtain rfl := Option.some.inj h
                try simp only [go_sem, qa, qb, qc, qd, qe, qf, qg, qh, qi, qj, qk, reduceCtorEq, reduceIte, c1, c2, str_at hx4, slt_t hx4, nat_in (slt_n hx4) hlhx4, c8, c11, c12, c13, g7_0, g7_3]
              · try simp only [go_sem, qa, qb, qc, qd, qe, qf, qg, qh, qi, qj, qk, reduceCtorEq, reduceIte, c1, c2, str_at hx4, slt_t hx4, nat_in (slt_n hx4) hlhx4, c8, c11, c12, c13, g7_0, g7_3]
                refine ⟨_, [], [], (Option.some.inj h).symm, by decide, ?_⟩
                try simp only [go_sem, qa, qb, qc, qd, qe, qf, qg, qh, qi, qj, qk, reduceCtorEq, reduceIte, c1, c2, str_at hx4, slt_t hx4, nat_in (slt_n hx4) hlhx4, c8, c11, c12, c13, g7_0, g7_3, IV, sts_cons, sts_nil, obs_cons, obs_nil]
          · try simp only [go_sem, qa, qb, qc, qd, qe, qf, qg, qh, qi, qj, qk, reduceCtorEq, reduceIte, c1, c2, str_at hx4, slt_t hx4, nat_in (slt_n hx4) hlhx4, c8, c11, g7_0, g7_3]
            refine ⟨_, [], [], (Option.some.inj h).symm, by decide, ?_⟩
            try simp only [go_sem, qa, qb, qc, qd, qe, qf, qg, qh, qi, qj, qk, reduceCtorEq, reduceIte, c1, c2, str_at hx4, slt_t hx4, nat_in (slt_n hx4) hlhx4, c8, c11, g7_0, g7_3, IV, sts_cons, sts_nil, obs_cons, obs_nil]
      · rintro ⟨⟩ ⟨sl, ob, n⟩ hI14 hW15 h
        simp only [IV, sts_cons, sts_nil, obs_cons, obs_nil, and_true, true_and, Nat.reduceAdd, str_len] at hI14
        obtain ⟨⟨g16_0, g16_3⟩, hn⟩ := hI14
        subst hn
        obtain rfl := Option.some.inj h
        try simp only [go_sem, qa, qb, qc, qd, qe, qf, qg, qh, qi, qj, qk, reduceCtorEq, reduceIte, c1, c2, lt_f (s_0.size), g16_0, g16_3]
theorem i_zeroPattern_ok {p_0 : PatternD} {r : Bool} (h : i_zeroPattern p_0 = some r) : Sound Tryz.prog J0 144 [(true, ePattern p_0)] [(false, [(false, .bool r)])] := by
  refine fnk Tryz.func144 (by kernel_rfl) rfl (by kernel_rfl) (by kernel_rfl) ?_
  unfold i_zeroPattern at h
  have ks0 : strOk ⟨#[]⟩ = true := by decide
  simp only [fnS, f144, argSt, go_sem, qa, qb, qc, qd, qe, qf, qg, qh, qi, qj, qk, reduceCtorEq, reduceIte, ks0]
  refine ite_K h (fun c1 h => ?_) (fun c1 h => ?_)
  · obtain rfl := Option.some.inj h
    try simp only [go_sem, qa, qb, qc, qd, qe, qf, qg, qh, qi, qj, qk, reduceCtorEq, reduceIte, ks0, c1]
  · obtain rfl := Option.some.inj h
    try simp only [go_sem, qa, qb, qc, qd, qe, qf, qg, qh, qi, qj, qk, reduceCtorEq, reduceIte, ks0, c1]
theorem i_SortedTexts_ok {l_0 : (List ByteArray)} {r : (List ByteArray)} (h : i_SortedTexts l_0 = some r) : Sound Tryz.prog J0 115 [(false, [.sl 9 1 (List.map eStr l_0)])] [(false, [(false, .sl 9 1 (List.map eStr r))])] := by
  refine fnk Tryz.func115 (by kernel_rfl) rfl (by kernel_rfl) (by kernel_rfl) ?_
  unfold i_SortedTexts at h
  simp only [fnS, f115, argSt, go_sem, qa, qb, qc, qd, qe, qf, qg, qh, qi, qj, qk, reduceCtorEq, reduceIte]
  obtain ⟨p1, h⟩ := chk_K h
  try simp only [Nat.reduceLeDiff] at p1
  try simp only [go_sem, qa, qb, qc, qd, qe, qf, qg, qh, qi, qj, qk, reduceCtorEq, reduceIte, p1]
  obtain ⟨v1, e2, h⟩ := bind_K h
  refine hand_K (by first | exact x_sortStrings_ok e2 | simpa only [go_sem, qa, qb, qc, qd, qe, qf, qg, qh, qi, qj, qk, reduceCtorEq, reduceIte, p1] using x_sortStrings_ok e2) ?_
  try simp only [go_sem, qa, qb, qc, qd, qe, qf, qg, qh, qi, qj, qk, reduceCtorEq, reduceIte, p1]
  refine swp_for h (fun i row_4 st => IV [(3, .p false [.row 0]), (4, .p false [.row 1]), (11, .p false [.row 0]), (12, .p false [.c (.int .i64 ((v1.length : Nat) : Int))]), (13, .p false [.c (.int .i64 ((i : Nat) : Int))])] [.row 9 1 (List.map eStr v1) 2, .row 9 1 (List.map eStr row_4) 2] st) [(false, 4, 0)] [32, 160] (by decide) ?_ ?_ ?_
  · simp only [go_sem, qa, qb, qc, qd, qe, qf, qg, qh, qi, qj, qk, reduceCtorEq, reduceIte, IV, sts_cons, sts_nil, obs_cons, obs_nil, p1]
  · rintro i8 x9 row_4 ⟨sl, ob, n⟩ y3 hx4 hI5 hW6 h hy3
    simp only [IV, sts_cons, sts_nil, obs_cons, obs_nil, and_true, true_and, Nat.reduceAdd, str_len] at hI5
    obtain ⟨⟨g7_3, g7_4, g7_11, g7_12, g7_13⟩, og7_0, og7_1, hn⟩ := hI5
    subst hn
    have hlhx4 := WF.rowL hW6 og7_0
    try simp only [go_sem, qa, qb, qc, qd, qe, qf, qg, qh, qi, qj, qk, reduceCtorEq, reduceIte, p1, hx4, lt_t hx4, lt_p hx4, nat_in (lt_n hx4) hlhx4, g7_3, g7_4, g7_11, g7_12, g7_13, og7_0, og7_1]
    refine ite_K h (fun c8 h => ?_) (fun c8 h => ?_)
    · obtain ⟨p9, h⟩ := chk_K h
      try simp only [Nat.reduceLeDiff] at p9
      try simp only [go_sem, qa, qb, qc, qd, qe, qf, qg, qh, qi, qj, qk, reduceCtorEq, reduceIte, p1, hx4, lt_t hx4, lt_p hx4, nat_in (lt_n hx4) hlhx4, c8, p9, g7_3, g7_4, g7_11, g7_12, g7_13, og7_0, og7_1]
      refine ⟨_, [], [0, 322], (Option.some.inj h).symm, by decide, ?_⟩
      try simp only [go_sem, qa, qb, qc, qd, qe, qf, qg, qh, qi, qj, qk, reduceCtorEq, reduceIte, p1, hx4, lt_t hx4, lt_p hx4, nat_in (lt_n hx4) hlhx4, c8, p9, g7_3, g7_4, g7_11, g7_12, g7_13, og7_0, og7_1, IV, sts_cons, sts_nil, obs_cons, obs_nil]
    · obtain ⟨p10, h⟩ := chk_K h
      obtain ⟨x10, e11, h⟩ := bind_K h
      try simp only [go_sem, qa, qb, qc, qd, qe, qf, qg, qh, qi, qj, qk, reduceCtorEq, reduceIte, p1, hx4, lt_t hx4, lt_p hx4, nat_in (lt_n hx4) hlhx4, c8, p10.1, p10.2, e11, g7_3, g7_4, g7_11, g7_12, g7_13, og7_0, og7_1]
      refine ite_K h (fun c12 h => ?_) (fun c12 h => ?_)
      · try simp only [go_sem, qa, qb, qc, qd, qe, qf, qg, qh, qi, qj, qk, reduceCtorEq, reduceIte, p1, hx4, lt_t hx4, lt_p hx4, nat_in (lt_n hx4) hlhx4, c8, p10.1, p10.2, e11, c12, g7_3, g7_4, g7_11, g7_12, g7_13, og7_0, og7_1]
        refine ⟨_, [], [0, 1], (Option.some.inj h).symm, by decide, ?_⟩
        try simp only [go_sem, qa, qb, qc, qd, qe, qf, qg, qh, qi, qj, qk, reduceCtorEq, reduceIte, p1, hx4, lt_t hx4, lt_p hx4, nat_in (lt_n hx4) hlhx4, c8, p10.1, p10.2, e11, c12, g7_3, g7_4, g7_11, g7_12, g7_13, og7_0, og7_1, IV, sts_cons, sts_nil, obs_cons, obs_nil]
      · obtain ⟨p13, h⟩ := chk_K h
        try simp only [Nat.reduceLeDiff] at p13
        try simp only [go_sem, qa, qb, qc, qd, qe, qf, qg, qh, qi, qj, qk, reduceCtorEq, reduceIte, p1, hx4, lt_t hx4, lt_p hx4, nat_in (lt_n hx4) hlhx4, c8, p10.1, p10.2, e11, c12, p13, g7_3, g7_4, g7_11, g7_12, g7_13, og7_0, og7_1]
        refine ⟨_, [], [0, 322], (Option.some.inj h).symm, by decide, ?_⟩
        try simp only [go_sem, qa, qb, qc, qd, qe, qf, qg, qh, qi, qj, qk, reduceCtorEq, reduceIte, p1, hx4, lt_t hx4, lt_p hx4, nat_in (lt_n hx4) hlhx4, c8, p10.1, p10.2, e11, c12, p13, g7_3, g7_4, g7_11, g7_12, g7_13, og7_0, og7_1, IV, sts_cons, sts_nil, obs_cons, obs_nil]
  · rintro row_4 ⟨sl, ob, n⟩ hI14 hW15 h
    simp only [IV, sts_cons, sts_nil, obs_cons, obs_nil, and_true, true_and, Nat.reduceAdd, str_len] at hI14
    obtain ⟨⟨g16_3, g16_4, g16_11, g16_12, g16_13⟩, og16_0, og16_1, hn⟩ := hI14
    subst hn
    obtain rfl := Option.some.inj h
    try simp only [go_sem, qa, qb, qc, qd, qe, qf, qg, qh, qi, qj, qk, reduceCtorEq, reduceIte, p1, lt_f (v1.length), g16_3, g16_4, g16_11, g16_12, g16_13, og16_0, og16_1]
end Go.Proofs.YtlkgkkacnoaeaaaGreatDoor

namespace Go.Proofs.YtlkgkkacnoaeaaaGreatDoor
open Go.Proofs.Tryz
open Int renaming reduceLT → qa, reduceLE → qb, reduceBEq → qc, reduceBNe → qd
open Nat renaming reduceBNe → qe, reduceAdd → qf, reduceMul → qg, reduceEqDiff → qh, reduceLeDiff → qi, reduceLT → qj, reduceBEq → qk
set_option linter.unusedSimpArgs false
set_option linter.unusedVariables false
set_option maxRecDepth 1000000
set_option maxHeartbeats 4000000
theorem i_hasText_ok {l_0 : (List ByteArray)} {s_1 : ByteArray} {r : Bool} (h : i_hasText l_0 s_1 = some r) : Sound Tryz.prog J0 114 [(false, [.sl 9 1 (List.map eStr l_0)]), (false, [.str s_1])] [(false, [(false, .bool r)])] := by
  refine fnk Tryz.func114 (by kernel_rfl) rfl (by kernel_rfl) (by kernel_rfl) ?_
  unfold i_hasText at h
  simp only [fnS, f114, argSt, go_sem, qa, qb, qc, qd, qe, qf, qg, qh, qi, qj, qk, reduceCtorEq, reduceIte]
  refine swp_for h (fun i _ st => IV [(1, .p false [.c (.str s_1)]), (7, .p false [.c (.sl 9 1 (List.map eStr l_0))]), (8, .p false [.c (.int .i64 ((l_0.length : Nat) : Int))]), (9, .p false [.c (.int .i64 ((i : Nat) : Int))])] [] st) [] [] (by decide) ?_ ?_ ?_
  · simp only [go_sem, qa, qb, qc, qd, qe, qf, qg, qh, qi, qj, qk, reduceCtorEq, reduceIte, IV, sts_cons, sts_nil, obs_cons, obs_nil]
  · rintro i4 x5 ⟨⟩ ⟨sl, ob, n⟩ y1 hx2 hI3 hW4 h hy1
    simp only [IV, sts_cons, sts_nil, obs_cons, obs_nil, and_true, true_and, Nat.reduceAdd, str_len] at hI3
    obtain ⟨⟨g5_1, g5_7, g5_8, g5_9⟩, hn⟩ := hI3
    subst hn
    have hlhx2 := WF.slotL hW4 g5_7 (j := 0) rfl
    try simp only [go_sem, qa, qb, qc, qd, qe, qf, qg, qh, qi, qj, qk, reduceCtorEq, reduceIte, hx2, lt_t hx2, lt_p hx2, nat_in (lt_n hx2) hlhx2, g5_1, g5_7, g5_8, g5_9]
    refine ite_K h (fun c6 h => ?_) (fun c6 h => ?_)
    · replace h := inr_K h hy1
      obtain rfl := Option.some.inj h
      try simp only [go_sem, qa, qb, qc, qd, qe, qf, qg, qh, qi, qj, qk, reduceCtorEq, reduceIte, hx2, lt_t hx2, lt_p hx2, nat_in (lt_n hx2) hlhx2, c6, g5_1, g5_7, g5_8, g5_9]
    · try simp only [go_sem, qa, qb, qc, qd, qe, qf, qg, qh, qi, qj, qk, reduceCtorEq, reduceIte, hx2, lt_t hx2, lt_p hx2, nat_in (lt_n hx2) hlhx2, c6, g5_1, g5_7, g5_8, g5_9]
      refine ⟨_, [], [], (Option.some.inj h).symm, by decide, ?_⟩
      try simp only [go_sem, qa, qb, qc, qd, qe, qf, qg, qh, qi, qj, qk, reduceCtorEq, reduceIte, hx2, lt_t hx2, lt_p hx2, nat_in (lt_n hx2) hlhx2, c6, g5_1, g5_7, g5_8, g5_9, IV, sts_cons, sts_nil, obs_cons, obs_nil]
  · rintro ⟨⟩ ⟨sl, ob, n⟩ hI7 hW8 h
    simp only [IV, sts_cons, sts_nil, obs_cons, obs_nil, and_true, true_and, Nat.reduceAdd, str_len] at hI7
    obtain ⟨⟨g9_1, g9_7, g9_8, g9_9⟩, hn⟩ := hI7
    subst hn
    obtain rfl := Option.some.inj h
    try simp only [go_sem, qa, qb, qc, qd, qe, qf, qg, qh, qi, qj, qk, reduceCtorEq, reduceIte, lt_f (l_0.length), g9_1, g9_7, g9_8, g9_9]
theorem i_copyTexts_ok {l_0 : (List ByteArray)} {r : (List ByteArray)} (h : i_copyTexts l_0 = some r) : Sound Tryz.prog J0 136 [(false, [.sl 9 1 (List.map eStr l_0)])] [(false, [(false, .sl 9 1 (List.map eStr r))])] := by
  refine fnk Tryz.func136 (by kernel_rfl) rfl (by kernel_rfl) (by kernel_rfl) ?_
  unfold i_copyTexts at h
  simp only [fnS, f136, argSt, go_sem, qa, qb, qc, qd, qe, qf, qg, qh, qi, qj, qk, reduceCtorEq, reduceIte]
  obtain ⟨p1, h⟩ := chk_K h
  try simp only [Nat.reduceLeDiff] at p1
  obtain rfl := Option.some.inj h
  try simp only [go_sem, qa, qb, qc, qd, qe, qf, qg, qh, qi, qj, qk, reduceCtorEq, reduceIte, p1]
theorem i_FindRule_ok {l_0 : (List RuleD)} {name_1 : ByteArray} {r : Int} (h : i_FindRule l_0 name_1 = some r) : Sound Tryz.prog J0 65 [(false, [.sl 52 4 (List.map eRule l_0)]), (false, [.str name_1])] [(false, [(false, .int .i64 r)])] := by
  refine fnk Tryz.func65 (by kernel_rfl) rfl (by kernel_rfl) (by kernel_rfl) ?_
  unfold i_FindRule at h
  simp only [fnS, f65, argSt, go_sem, qa, qb, qc, qd, qe, qf, qg, qh, qi, qj, qk, reduceCtorEq, reduceIte]
  refine swp_for h (fun i _ st => IV [(1, .p false [.c (.str name_1)]), (7, .p false [.c (.sl 52 4 (List.map eRule l_0))]), (8, .p false [.c (.int .i64 ((l_0.length : Nat) : Int))]), (9, .p false [.c (.int .i64 ((i : Nat) : Int))])] [] st) [] [] (by decide) ?_ ?_ ?_
  · simp only [go_sem, qa, qb, qc, qd, qe, qf, qg, qh, qi, qj, qk, reduceCtorEq, reduceIte, IV, sts_cons, sts_nil, obs_cons, obs_nil]
  · rintro i4 x5 ⟨⟩ ⟨sl, ob, n⟩ y1 hx2 hI3 hW4 h hy1
    simp only [IV, sts_cons, sts_nil, obs_cons, obs_nil, and_true, true_and, Nat.reduceAdd, str_len] at hI3
    obtain ⟨⟨g5_1, g5_7, g5_8, g5_9⟩, hn⟩ := hI3
    subst hn
    have hlhx2 := WF.slotL hW4 g5_7 (j := 0) rfl
    try simp only [go_sem, qa, qb, qc, qd, qe, qf, qg, qh, qi, qj, qk, reduceCtorEq, reduceIte, hx2, lt_t hx2, lt_p hx2, nat_in (lt_n hx2) hlhx2, g5_1, g5_7, g5_8, g5_9]
    refine ite_K h (fun c6 h => ?_) (fun c6 h => ?_)
    · replace h := inr_K h hy1
      obtain rfl := Option.some.inj h
      try simp only [go_sem, qa, qb, qc, qd, qe, qf, qg, qh, qi, qj, qk, reduceCtorEq, reduceIte, hx2, lt_t hx2, lt_p hx2, nat_in (lt_n hx2) hlhx2, c6, g5_1, g5_7, g5_8, g5_9]
    · try simp only [go_sem, qa, qb, qc, qd, qe, qf, qg, qh, qi, qj, qk, reduceCtorEq, reduceIte, hx2, lt_t hx2, lt_p hx2, nat_in (lt_n hx2) hlhx2, c6, g5_1, g5_7, g5_8, g5_9]
      refine ⟨_, [], [], (Option.some.inj h).symm, by decide, ?_⟩
      try simp only [go_sem, qa, qb, qc, qd, qe, qf, qg, qh, qi, qj, qk, reduceCtorEq, reduceIte, hx2, lt_t hx2, lt_p hx2, nat_in (lt_n hx2) hlhx2, c6, g5_1, g5_7, g5_8, g5_9, IV, sts_cons, sts_nil, obs_cons, obs_nil]
  · rintro ⟨⟩ ⟨sl, ob, n⟩ hI7 hW8 h
    simp only [IV, sts_cons, sts_nil, obs_cons, obs_nil, and_true, true_and, Nat.reduceAdd, str_len] at hI7
    obtain ⟨⟨g9_1, g9_7, g9_8, g9_9⟩, hn⟩ := hI7
    subst hn
    obtain rfl := Option.some.inj h
    try simp only [go_sem, qa, qb, qc, qd, qe, qf, qg, qh, qi, qj, qk, reduceCtorEq, reduceIte, lt_f (l_0.length), g9_1, g9_7, g9_8, g9_9]
theorem i_compareInts_ok {a_0 : Int} {b_1 : Int} {r : Int} (h : i_compareInts a_0 b_1 = some r) : Sound Tryz.prog J0 120 [(false, [.int .i64 a_0]), (false, [.int .i64 b_1])] [(false, [(false, .int .i64 r)])] := by
  refine fnk Tryz.func120 (by kernel_rfl) rfl (by kernel_rfl) (by kernel_rfl) ?_
  unfold i_compareInts at h
  simp only [fnS, f120, argSt, go_sem, qa, qb, qc, qd, qe, qf, qg, qh, qi, qj, qk, reduceCtorEq, reduceIte]
  refine ite_K h (fun c1 h => ?_) (fun c1 h => ?_)
  · obtain rfl := Option.some.inj h
    try simp only [go_sem, qa, qb, qc, qd, qe, qf, qg, qh, qi, qj, qk, reduceCtorEq, reduceIte, c1]
  · try simp only [go_sem, qa, qb, qc, qd, qe, qf, qg, qh, qi, qj, qk, reduceCtorEq, reduceIte, c1]
    refine ite_K h (fun c2 h => ?_) (fun c2 h => ?_)
    · obtain rfl := Option.some.inj h
      try simp only [go_sem, qa, qb, qc, qd, qe, qf, qg, qh, qi, qj, qk, reduceCtorEq, reduceIte, c1, c2]
    · obtain rfl := Option.some.inj h
      try simp only [go_sem, qa, qb, qc, qd, qe, qf, qg, qh, qi, qj, qk, reduceCtorEq, reduceIte, c1, c2]
theorem i_FormatInt_ok {n_0 : Int} {r : ByteArray} (h : i_FormatInt n_0 = some r) : Sound Tryz.prog J0 160 [(false, [.int .i64 n_0])] [(false, [(false, .str r)])] := by
  refine fnk Tryz.func160 (by kernel_rfl) rfl (by kernel_rfl) (by kernel_rfl) ?_
  unfold i_FormatInt at h
  have ks0 : strOk ⟨#[]⟩ = true := by decide
  simp only [fnS, f160, argSt, go_sem, qa, qb, qc, qd, qe, qf, qg, qh, qi, qj, qk, reduceCtorEq, reduceIte, ks0]
  obtain ⟨v1, e1, h⟩ := bind_K h
  refine call_K (by first | exact x_Itoa_ok e1 | simpa only [go_sem, qa, qb, qc, qd, qe, qf, qg, qh, qi, qj, qk, reduceCtorEq, reduceIte, ks0] using x_Itoa_ok e1) ?_
  obtain rfl := Option.some.inj h
  try simp only [go_sem, qa, qb, qc, qd, qe, qf, qg, qh, qi, qj, qk, reduceCtorEq, reduceIte, ks0]
theorem i_copyPairs_ok {b_0 : (List PairD)} {r : (List PairD)} (h : i_copyPairs b_0 = some r) : Sound Tryz.prog J0 139 [(false, [.sl 119 2 (List.map ePair b_0)])] [(false, [(false, .sl 119 2 (List.map ePair r))])] := by
  refine fnk Tryz.func139 (by kernel_rfl) rfl (by kernel_rfl) (by kernel_rfl) ?_
  unfold i_copyPairs at h
  simp only [fnS, f139, argSt, go_sem, qa, qb, qc, qd, qe, qf, qg, qh, qi, qj, qk, reduceCtorEq, reduceIte]
  obtain ⟨p1, h⟩ := chk_K h
  try simp only [Nat.reduceLeDiff] at p1
  obtain rfl := Option.some.inj h
  try simp only [go_sem, qa, qb, qc, qd, qe, qf, qg, qh, qi, qj, qk, reduceCtorEq, reduceIte, p1]
theorem i_sameTexts_ok {a_0 : (List ByteArray)} {b_1 : (List ByteArray)} {r : Bool} (h : i_sameTexts a_0 b_1 = some r) : Sound Tryz.prog J0 123 [(false, [.sl 9 1 (List.map eStr a_0)]), (false, [.sl 9 1 (List.map eStr b_1)])] [(false, [(false, .bool r)])] := by
  refine fnk Tryz.func123 (by kernel_rfl) rfl (by kernel_rfl) (by kernel_rfl) ?_
  unfold i_sameTexts at h
  simp only [fnS, f123, argSt, go_sem, qa, qb, qc, qd, qe, qf, qg, qh, qi, qj, qk, reduceCtorEq, reduceIte]
  refine ite_K h (fun c1 h => ?_) (fun c1 h => ?_)
  · obtain rfl := Option.some.inj h
    try simp only [go_sem, qa, qb, qc, qd, qe, qf, qg, qh, qi, qj, qk, reduceCtorEq, reduceIte, c1]
  · try simp only [go_sem, qa, qb, qc, qd, qe, qf, qg, qh, qi, qj, qk, reduceCtorEq, reduceIte, c1]
    refine swp_for h (fun i _ st => IV [(0, .p false [.c (.sl 9 1 (List.map eStr a_0))]), (1, .p false [.c (.sl 9 1 (List.map eStr b_1))]), (12, .p false [.c (.int .i64 ((a_0.length : Nat) : Int))]), (13, .p false [.c (.int .i64 ((i : Nat) : Int))])] [] st) [] [] (by decide) ?_ ?_ ?_
    · simp only [go_sem, qa, qb, qc, qd, qe, qf, qg, qh, qi, qj, qk, reduceCtorEq, reduceIte, IV, sts_cons, sts_nil, obs_cons, obs_nil, c1]
    · rintro i6 x7 ⟨⟩ ⟨sl, ob, n⟩ y2 hx3 hI4 hW5 h hy2
      simp only [IV, sts_cons, sts_nil, obs_cons, obs_nil, and_true, true_and, Nat.reduceAdd, str_len] at hI4
      obtain ⟨⟨g6_0, g6_1, g6_12, g6_13⟩, hn⟩ := hI4
      subst hn
      have hlhx3 := WF.slotL hW5 g6_0 (j := 0) rfl
      obtain ⟨x8, a7, a8, e9, h⟩ := at_K h
      simp only [Int.toNat_natCast] at e9
      try simp only [go_sem, qa, qb, qc, qd, qe, qf, qg, qh, qi, qj, qk, reduceCtorEq, reduceIte, c1, hx3, lt_t hx3, lt_p hx3, nat_in (lt_n hx3) hlhx3, a7, a8, e9, g6_0, g6_1, g6_12, g6_13]
      refine ite_K h (fun c10 h => ?_) (fun c10 h => ?_)
      · try simp only [go_sem, qa, qb, qc, qd, qe, qf, qg, qh, qi, qj, qk, reduceCtorEq, reduceIte, c1, hx3, lt_t hx3, lt_p hx3, nat_in (lt_n hx3) hlhx3, a7, a8, e9, c10, g6_0, g6_1, g6_12, g6_13]
        refine ⟨_, [], [], (Option.some.inj h).symm, by decide, ?_⟩
        try simp only [go_sem, qa, qb, qc, qd, qe, qf, qg, qh, qi, qj, qk, reduceCtorEq, reduceIte, c1, hx3, lt_t hx3, lt_p hx3, nat_in (lt_n hx3) hlhx3, a7, a8, e9, c10, g6_0, g6_1, g6_12, g6_13, IV, sts_cons, sts_nil, obs_cons, obs_nil]
      · replace h := inr_K h hy2
        obtain rfl := Option.some.inj h
        try simp only [go_sem, qa, qb, qc, qd, qe, qf, qg, qh, qi, qj, qk, reduceCtorEq, reduceIte, c1, hx3, lt_t hx3, lt_p hx3, nat_in (lt_n hx3) hlhx3, a7, a8, e9, c10, g6_0, g6_1, g6_12, g6_13]
    · rintro ⟨⟩ ⟨sl, ob, n⟩ hI11 hW12 h
      simp only [IV, sts_cons, sts_nil, obs_cons, obs_nil, and_true, true_and, Nat.reduceAdd, str_len] at hI11
      obtain ⟨⟨g13_0, g13_1, g13_12, g13_13⟩, hn⟩ := hI11
      subst hn
      obtain rfl := Option.some.inj h
      try simp only [go_sem, qa, qb, qc, qd, qe, qf, qg, qh, qi, qj, qk, reduceCtorEq, reduceIte, c1, lt_f (a_0.length), g13_0, g13_1, g13_12, g13_13]
end Go.Proofs.YtlkgkkacnoaeaaaGreatDoor

namespace Go.Proofs.YtlkgkkacnoaeaaaGreatDoor
open Go.Proofs.Tryz
open Int renaming reduceLT → qa, reduceLE → qb, reduceBEq → qc, reduceBNe → qd
open Nat renaming reduceBNe → qe, reduceAdd → qf, reduceMul → qg, reduceEqDiff → qh, reduceLeDiff → qi, reduceLT → qj, reduceBEq → qk
set_option linter.unusedSimpArgs false
set_option linter.unusedVariables false
set_option maxRecDepth 1000000
set_option maxHeartbeats 4000000
theorem s_IsAtom_ok {s_0 : ByteArray} {r : Bool} (h : s_IsAtom s_0 = some r) : Sound Tryz.prog J0 92 [(false, [.str s_0])] [(false, [(false, .bool r)])] := by
  refine fnk Tryz.func92 (by kernel_rfl) rfl (by kernel_rfl) (by kernel_rfl) ?_
  unfold s_IsAtom at h
  simp only [fnS, f92, argSt, go_sem, qa, qb, qc, qd, qe, qf, qg, qh, qi, qj, qk, reduceCtorEq, reduceIte]
  refine swp_for h (fun i _ st => IV [(0, .p false [.c (.str s_0)]), (3, .p false [.c (.int .i64 ((i : Nat) : Int))])] [] st) [] [] (by decide) ?_ ?_ ?_
  · simp only [go_sem, qa, qb, qc, qd, qe, qf, qg, qh, qi, qj, qk, reduceCtorEq, reduceIte, IV, sts_cons, sts_nil, obs_cons, obs_nil]
  · rintro i9 x10 ⟨⟩ ⟨sl, ob, n⟩ y1 hx2 hI3 hW4 h hy1
    simp only [IV, sts_cons, sts_nil, obs_cons, obs_nil, and_true, true_and, Nat.reduceAdd, str_len] at hI3
    obtain ⟨⟨g5_0, g5_3⟩, hn⟩ := hI3
    subst hn
    have hlhx2 := WF.slotS hW4 g5_0 (j := 0) rfl
    try simp only [go_sem, qa, qb, qc, qd, qe, qf, qg, qh, qi, qj, qk, reduceCtorEq, reduceIte, str_at hx2, slt_t hx2, nat_in (slt_n hx2) hlhx2, g5_0, g5_3]
    obtain ⟨v11, e6, h⟩ := bind_K h
    refine call_K (by first | exact s_l1In_ok e6 | simpa only [go_sem, qa, qb, qc, qd, qe, qf, qg, qh, qi, qj, qk, reduceCtorEq, reduceIte, str_at hx2, slt_t hx2, nat_in (slt_n hx2) hlhx2, g5_0, g5_3] using s_l1In_ok e6) ?_
    try simp only [go_sem, qa, qb, qc, qd, qe, qf, qg, qh, qi, qj, qk, reduceCtorEq, reduceIte, str_at hx2, slt_t hx2, nat_in (slt_n hx2) hlhx2, g5_0, g5_3]
    refine ite_K h (fun c7 h => ?_) (fun c7 h => ?_)
    · try simp only [go_sem, qa, qb, qc, qd, qe, qf, qg, qh, qi, qj, qk, reduceCtorEq, reduceIte, str_at hx2, slt_t hx2, nat_in (slt_n hx2) hlhx2, c7, g5_0, g5_3]
      refine ⟨_, [], [], (Option.some.inj h).symm, by decide, ?_⟩
      try simp only [go_sem, qa, qb, qc, qd, qe, qf, qg, qh, qi, qj, qk, reduceCtorEq, reduceIte, str_at hx2, slt_t hx2, nat_in (slt_n hx2) hlhx2, c7, g5_0, g5_3, IV, sts_cons, sts_nil, obs_cons, obs_nil]
    · try simp only [go_sem, qa, qb, qc, qd, qe, qf, qg, qh, qi, qj, qk, reduceCtorEq, reduceIte, str_at hx2, slt_t hx2, nat_in (slt_n hx2) hlhx2, c7, g5_0, g5_3]
      obtain ⟨v12, e8, h⟩ := bind_K h
      refine call_K (by first | exact s_l1In_ok e8 | simpa only [go_sem, qa, qb, qc, qd, qe, qf, qg, qh, qi, qj, qk, reduceCtorEq, reduceIte, str_at hx2, slt_t hx2, nat_in (slt_n hx2) hlhx2, c7, g5_0, g5_3] using s_l1In_ok e8) ?_
      try simp only [go_sem, qa, qb, qc, qd, qe, qf, qg, qh, qi, qj, qk, reduceCtorEq, reduceIte, str_at hx2, slt_t hx2, nat_in (slt_n hx2) hlhx2, c7, g5_0, g5_3]
      refine ite_K h (fun c9 h => ?_) (fun c9 h => ?_)
      · try simp only [go_sem, qa, qb, qc, qd, qe, qf, qg, qh, qi, qj, qk, reduceCtorEq, reduceIte, str_at hx2, slt_t hx2, nat_in (slt_n hx2) hlhx2, c7, c9, g5_0, g5_3]
        refine ⟨_, [], [], (Option.some.inj h).symm, by decide, ?_⟩
        try simp only [go_sem, qa, qb, qc, qd, qe, qf, qg, qh, qi, qj, qk, reduceCtorEq, reduceIte, str_at hx2, slt_t hx2, nat_in (slt_n hx2) hlhx2, c7, c9, g5_0, g5_3, IV, sts_cons, sts_nil, obs_cons, obs_nil]
      · replace h := inr_K h hy1
        obtain rfl := Option.some.inj h
        try simp only [go_sem, qa, qb, qc, qd, qe, qf, qg, qh, qi, qj, qk, reduceCtorEq, reduceIte, str_at hx2, slt_t hx2, nat_in (slt_n hx2) hlhx2, c7, c9, g5_0, g5_3]
  · rintro ⟨⟩ ⟨sl, ob, n⟩ hI10 hW11 h
    simp only [IV, sts_cons, sts_nil, obs_cons, obs_nil, and_true, true_and, Nat.reduceAdd, str_len] at hI10
    obtain ⟨⟨g12_0, g12_3⟩, hn⟩ := hI10
    subst hn
    try simp only [go_sem, qa, qb, qc, qd, qe, qf, qg, qh, qi, qj, qk, reduceCtorEq, reduceIte, lt_f (s_0.size), g12_0, g12_3]
    obtain ⟨v13, e13, h⟩ := bind_K h
    refine call_K (by first | exact s_l1In_ok e13 | simpa only [go_sem, qa, qb, qc, qd, qe, qf, qg, qh, qi, qj, qk, reduceCtorEq, reduceIte, lt_f (s_0.size), g12_0, g12_3] using s_l1In_ok e13) ?_
    obtain rfl := Option.some.inj h
    try simp only [go_sem, qa, qb, qc, qd, qe, qf, qg, qh, qi, qj, qk, reduceCtorEq, reduceIte, lt_f (s_0.size), g12_0, g12_3]
theorem s_ParseInt_ok {s_0 : ByteArray} {r : (Int × Bool)} (h : s_ParseInt s_0 = some r) : Sound Tryz.prog J0 142 [(false, [.str s_0])] [(false, [(false, .int .i64 r.1)]), (false, [(false, .bool r.2)])] := by
  refine fnk Tryz.func142 (by kernel_rfl) rfl (by kernel_rfl) (by kernel_rfl) ?_
  unfold s_ParseInt at h
  simp only [fnS, f142, argSt, go_sem, qa, qb, qc, qd, qe, qf, qg, qh, qi, qj, qk, reduceCtorEq, reduceIte]
  obtain ⟨v1, e1, h⟩ := bind_K h
  refine call_K (by first | exact s_l1In_ok e1 | simpa only [go_sem, qa, qb, qc, qd, qe, qf, qg, qh, qi, qj, qk, reduceCtorEq, reduceIte] using s_l1In_ok e1) ?_
  try simp only [go_sem, qa, qb, qc, qd, qe, qf, qg, qh, qi, qj, qk, reduceCtorEq, reduceIte]
  refine ite_K h (fun c2 h => ?_) (fun c2 h => ?_)
  · try simp only [go_sem, qa, qb, qc, qd, qe, qf, qg, qh, qi, qj, qk, reduceCtorEq, reduceIte, c2]
    refine swp_for h (fun i n_3 st => IV [(0, .p false [.c (.str s_0)]), (4, .p false [.c (.int .i64 n_3)]), (5, .p false [.c (.int .i64 ((i : Nat) : Int))])] [] st) [] [] (by decide) ?_ ?_ ?_
    · simp only [go_sem, qa, qb, qc, qd, qe, qf, qg, qh, qi, qj, qk, reduceCtorEq, reduceIte, IV, sts_cons, sts_nil, obs_cons, obs_nil, c2]
    · rintro i7 x8 n_3 ⟨sl, ob, n⟩ y3 hx4 hI5 hW6 h hy3
      simp only [IV, sts_cons, sts_nil, obs_cons, obs_nil, and_true, true_and, Nat.reduceAdd, str_len] at hI5
      obtain ⟨⟨g7_0, g7_4, g7_5⟩, hn⟩ := hI5
      subst hn
      have hlhx4 := WF.slotS hW6 g7_0 (j := 0) rfl
      try simp only [go_sem, qa, qb, qc, qd, qe, qf, qg, qh, qi, qj, qk, reduceCtorEq, reduceIte, c2, str_at hx4, slt_t hx4, nat_in (slt_n hx4) hlhx4, g7_0, g7_4, g7_5]
      refine ite_K h (fun c8 h => ?_) (fun c8 h => ?_)
      · replace h := inr_K h hy3
        obtain rfl := Option.some.inj h
        try simp only [go_sem, qa, qb, qc, qd, qe, qf, qg, qh, qi, qj, qk, reduceCtorEq, reduceIte, c2, str_at hx4, slt_t hx4, nat_in (slt_n hx4) hlhx4, c8, g7_0, g7_4, g7_5]
      · try simp only [go_sem, qa, qb, qc, qd, qe, qf, qg, qh, qi, qj, qk, reduceCtorEq, reduceIte, c2, str_at hx4, slt_t hx4, nat_in (slt_n hx4) hlhx4, c8, g7_0, g7_4, g7_5]
        refine ite_K h (fun c9 h => ?_) (fun c9 h => ?_)
        · replace h := inr_K h hy3
          obtain rfl := Option.some.inj h
          try simp only [go_sem, qa, qb, qc, qd, qe, qf, qg, qh, qi, qj, qk, reduceCtorEq, reduceIte, c2, str_at hx4, slt_t hx4, nat_in (slt_n hx4) hlhx4, c8, c9, g7_0, g7_4, g7_5]
        · try simp only [go_sem, qa, qb, qc, qd, qe, qf, qg, qh, qi, qj, qk, reduceCtorEq, reduceIte, c2, str_at hx4, slt_t hx4, nat_in (slt_n hx4) hlhx4, c8, c9, g7_0, g7_4, g7_5]
          refine ⟨_, [], [], (Option.some.inj h).symm, by decide, ?_⟩
          try simp only [go_sem, qa, qb, qc, qd, qe, qf, qg, qh, qi, qj, qk, reduceCtorEq, reduceIte, c2, str_at hx4, slt_t hx4, nat_in (slt_n hx4) hlhx4, c8, c9, g7_0, g7_4, g7_5, IV, sts_cons, sts_nil, obs_cons, obs_nil]
    · rintro n_3 ⟨sl, ob, n⟩ hI10 hW11 h
      simp only [IV, sts_cons, sts_nil, obs_cons, obs_nil, and_true, true_and, Nat.reduceAdd, str_len] at hI10
      obtain ⟨⟨g12_0, g12_4, g12_5⟩, hn⟩ := hI10
      subst hn
      try simp only [go_sem, qa, qb, qc, qd, qe, qf, qg, qh, qi, qj, qk, reduceCtorEq, reduceIte, c2, lt_f (s_0.size), g12_0, g12_4, g12_5]
      obtain ⟨v9, e13, h⟩ := bind_K h
      refine call_K (by first | exact s_FormatInt_ok e13 | simpa only [go_sem, qa, qb, qc, qd, qe, qf, qg, qh, qi, qj, qk, reduceCtorEq, reduceIte, c2, lt_f (s_0.size), g12_0, g12_4, g12_5] using s_FormatInt_ok e13) ?_
      try simp only [go_sem, qa, qb, qc, qd, qe, qf, qg, qh, qi, qj, qk, reduceCtorEq, reduceIte, c2, lt_f (s_0.size), g12_0, g12_4, g12_5]
      refine ite_K h (fun c14 h => ?_) (fun c14 h => ?_)
      · obtain rfl := Option.some.inj h
        try simp only [go_sem, qa, qb, qc, qd, qe, qf, qg, qh, qi, qj, qk, reduceCtorEq, reduceIte, c2, lt_f (s_0.size), c14, g12_0, g12_4, g12_5]
      · obtain rfl := Option.some.inj h
        try simp only [go_sem, qa, qb, qc, qd, qe, qf, qg, qh, qi, qj, qk, reduceCtorEq, reduceIte, c2, lt_f (s_0.size), c14, g12_0, g12_4, g12_5]
  · obtain rfl := Option.some.inj h
    try simp only [go_sem, qa, qb, qc, qd, qe, qf, qg, qh, qi, qj, qk, reduceCtorEq, reduceIte, c2]
theorem s_l2Copy_ok {f_0 : FactD} {r : FactD} (h : s_l2Copy f_0 = some r) : Sound Tryz.prog J0 78 [(true, eFact f_0)] [(true, [(false, .str r.rel), (false, .sl 9 1 (List.map eStr r.args))])] := by
  refine fnk Tryz.func78 (by kernel_rfl) rfl (by kernel_rfl) (by kernel_rfl) ?_
  unfold s_l2Copy at h
  simp only [fnS, f78, argSt, go_sem, qa, qb, qc, qd, qe, qf, qg, qh, qi, qj, qk, reduceCtorEq, reduceIte]
  obtain ⟨v1, e1, h⟩ := bind_K h
  refine call_K (by first | exact s_l1Texts_ok e1 | simpa only [go_sem, qa, qb, qc, qd, qe, qf, qg, qh, qi, qj, qk, reduceCtorEq, reduceIte] using s_l1Texts_ok e1) ?_
  obtain rfl := Option.some.inj h
  try simp only [go_sem, qa, qb, qc, qd, qe, qf, qg, qh, qi, qj, qk, reduceCtorEq, reduceIte]
theorem s_l2Same_ok {a_0 : FactD} {b_1 : FactD} {r : Bool} (h : s_l2Same a_0 b_1 = some r) : Sound Tryz.prog J0 57 [(true, eFact a_0), (true, eFact b_1)] [(false, [(false, .bool r)])] := by
  refine fnk Tryz.func57 (by kernel_rfl) rfl (by kernel_rfl) (by kernel_rfl) ?_
  unfold s_l2Same at h
  simp only [fnS, f57, argSt, go_sem, qa, qb, qc, qd, qe, qf, qg, qh, qi, qj, qk, reduceCtorEq, reduceIte]
  refine ite_K h (fun c1 h => ?_) (fun c1 h => ?_)
  · try simp only [go_sem, qa, qb, qc, qd, qe, qf, qg, qh, qi, qj, qk, reduceCtorEq, reduceIte, c1]
    obtain ⟨v1, e2, h⟩ := bind_K h
    refine call_K (by first | exact s_l1SameTexts_ok e2 | simpa only [go_sem, qa, qb, qc, qd, qe, qf, qg, qh, qi, qj, qk, reduceCtorEq, reduceIte, c1] using s_l1SameTexts_ok e2) ?_
    obtain rfl := Option.some.inj h
    try simp only [go_sem, qa, qb, qc, qd, qe, qf, qg, qh, qi, qj, qk, reduceCtorEq, reduceIte, c1]
  · obtain rfl := Option.some.inj h
    try simp only [go_sem, qa, qb, qc, qd, qe, qf, qg, qh, qi, qj, qk, reduceCtorEq, reduceIte, c1]
theorem i_IsName_ok {s_0 : ByteArray} {r : Bool} (h : i_IsName s_0 = some r) : Sound Tryz.prog J0 108 [(false, [.str s_0])] [(false, [(false, .bool r)])] := by
  refine fnk Tryz.func108 (by kernel_rfl) rfl (by kernel_rfl) (by kernel_rfl) ?_
  unfold i_IsName at h
  simp only [fnS, f108, argSt, go_sem, qa, qb, qc, qd, qe, qf, qg, qh, qi, qj, qk, reduceCtorEq, reduceIte]
  obtain ⟨v1, e1, h⟩ := bind_K h
  refine call_K (by first | exact i_IsAtom_ok e1 | simpa only [go_sem, qa, qb, qc, qd, qe, qf, qg, qh, qi, qj, qk, reduceCtorEq, reduceIte] using i_IsAtom_ok e1) ?_
  try simp only [go_sem, qa, qb, qc, qd, qe, qf, qg, qh, qi, qj, qk, reduceCtorEq, reduceIte]
  refine ite_K h (fun c2 h => ?_) (fun c2 h => ?_)
  · obtain ⟨b2, a3, e4, h⟩ := sat_K h
    obtain rfl := Option.some.inj h
    try simp only [go_sem, qa, qb, qc, qd, qe, qf, qg, qh, qi, qj, qk, reduceCtorEq, reduceIte, c2, a3, e4]
  · obtain rfl := Option.some.inj h
    try simp only [go_sem, qa, qb, qc, qd, qe, qf, qg, qh, qi, qj, qk, reduceCtorEq, reduceIte, c2]
theorem i_IsVar_ok {s_0 : ByteArray} {r : Bool} (h : i_IsVar s_0 = some r) : Sound Tryz.prog J0 122 [(false, [.str s_0])] [(false, [(false, .bool r)])] := by
  refine fnk Tryz.func122 (by kernel_rfl) rfl (by kernel_rfl) (by kernel_rfl) ?_
  unfold i_IsVar at h
  simp only [fnS, f122, argSt, go_sem, qa, qb, qc, qd, qe, qf, qg, qh, qi, qj, qk, reduceCtorEq, reduceIte]
  refine ite_K h (fun c1 h => ?_) (fun c1 h => ?_)
  · obtain ⟨b1, a2, e3, h⟩ := sat_K h
    try simp only [go_sem, qa, qb, qc, qd, qe, qf, qg, qh, qi, qj, qk, reduceCtorEq, reduceIte, c1, a2, e3]
    refine ite_K h (fun c4 h => ?_) (fun c4 h => ?_)
    · obtain ⟨p5, h⟩ := chk_K h
      try simp only [go_sem, qa, qb, qc, qd, qe, qf, qg, qh, qi, qj, qk, reduceCtorEq, reduceIte, c1, a2, e3, c4, p5.1, p5.2]
      obtain ⟨v2, e6, h⟩ := bind_K h
      refine call_K (by first | exact i_IsAtom_ok e6 | simpa only [go_sem, qa, qb, qc, qd, qe, qf, qg, qh, qi, qj, qk, reduceCtorEq, reduceIte, c1, a2, e3, c4, p5.1, p5.2] using i_IsAtom_ok e6) ?_
      obtain rfl := Option.some.inj h
      try simp only [go_sem, qa, qb, qc, qd, qe, qf, qg, qh, qi, qj, qk, reduceCtorEq, reduceIte, c1, a2, e3, c4, p5.1, p5.2]
    · obtain rfl := Option.some.inj h
      try simp only [go_sem, qa, qb, qc, qd, qe, qf, qg, qh, qi, qj, qk, reduceCtorEq, reduceIte, c1, a2, e3, c4]
  · obtain rfl := Option.some.inj h
    try simp only [go_sem, qa, qb, qc, qd, qe, qf, qg, qh, qi, qj, qk, reduceCtorEq, reduceIte, c1]
theorem i_termsOf_ok {x_0 : CondD} {r : (List ByteArray)} (h : i_termsOf x_0 = some r) : Sound Tryz.prog J0 154 [(true, eCond x_0)] [(false, [(false, .sl 9 1 (List.map eStr r))])] := by
  refine fnk Tryz.func154 (by kernel_rfl) rfl (by kernel_rfl) (by kernel_rfl) ?_
  unfold i_termsOf at h
  simp only [fnS, f154, argSt, go_sem, qa, qb, qc, qd, qe, qf, qg, qh, qi, qj, qk, reduceCtorEq, reduceIte]
  obtain ⟨v1, e1, h⟩ := bind_K h
  refine call_K (by first | exact i_copyTexts_ok e1 | simpa only [go_sem, qa, qb, qc, qd, qe, qf, qg, qh, qi, qj, qk, reduceCtorEq, reduceIte] using i_copyTexts_ok e1) ?_
  obtain ⟨p2, h⟩ := chk_K h
  try simp only [Nat.reduceLeDiff] at p2
  obtain rfl := Option.some.inj h
  try simp only [go_sem, qa, qb, qc, qd, qe, qf, qg, qh, qi, qj, qk, reduceCtorEq, reduceIte, p2]
theorem i_ParseInt_ok {s_0 : ByteArray} {r : (Int × Bool)} (h : i_ParseInt s_0 = some r) : Sound Tryz.prog J0 148 [(false, [.str s_0])] [(false, [(false, .int .i64 r.1)]), (false, [(false, .bool r.2)])] := by
  refine fnk Tryz.func148 (by kernel_rfl) rfl (by kernel_rfl) (by kernel_rfl) ?_
  unfold i_ParseInt at h
  simp only [fnS, f148, argSt, go_sem, qa, qb, qc, qd, qe, qf, qg, qh, qi, qj, qk, reduceCtorEq, reduceIte]
  refine ite_K h (fun c1 h => ?_) (fun c1 h => ?_)
  · obtain rfl := Option.some.inj h
    try simp only [go_sem, qa, qb, qc, qd, qe, qf, qg, qh, qi, qj, qk, reduceCtorEq, reduceIte, c1]
  · try simp only [go_sem, qa, qb, qc, qd, qe, qf, qg, qh, qi, qj, qk, reduceCtorEq, reduceIte, c1]
    refine ite_K h (fun c2 h => ?_) (fun c2 h => ?_)
    · obtain rfl := Option.some.inj h
      try simp only [go_sem, qa, qb, qc, qd, qe, qf, qg, qh, qi, qj, qk, reduceCtorEq, reduceIte, c1, c2]
    · try simp only [go_sem, qa, qb, qc, qd, qe, qf, qg, qh, qi, qj, qk, reduceCtorEq, reduceIte, c1, c2]
      obtain ⟨v1, e3, h⟩ := bind_K h
      refine call_K (by first | exact x_Atoi_ok e3 | simpa only [go_sem, qa, qb, qc, qd, qe, qf, qg, qh, qi, qj, qk, reduceCtorEq, reduceIte, c1, c2] using x_Atoi_ok e3) ?_
      try simp only [go_sem, qa, qb, qc, qd, qe, qf, qg, qh, qi, qj, qk, reduceCtorEq, reduceIte, c1, c2]
      refine ite_K h (fun c4 h => ?_) (fun c4 h => ?_)
      · try simp only [go_sem, qa, qb, qc, qd, qe, qf, qg, qh, qi, qj, qk, reduceCtorEq, reduceIte, c1, c2, c4]
        refine ite_K h (fun c5 h => ?_) (fun c5 h => ?_)
        · obtain rfl := Option.some.inj h
          try simp only [go_sem, qa, qb, qc, qd, qe, qf, qg, qh, qi, qj, qk, reduceCtorEq, reduceIte, c1, c2, c4, c5]
        · try simp only [go_sem, qa, qb, qc, qd, qe, qf, qg, qh, qi, qj, qk, reduceCtorEq, reduceIte, c1, c2, c4, c5]
          refine ite_K h (fun c6 h => ?_) (fun c6 h => ?_)
          · obtain rfl := Option.some.inj h
            try simp only [go_sem, qa, qb, qc, qd, qe, qf, qg, qh, qi, qj, qk, reduceCtorEq, reduceIte, c1, c2, c4, c5, c6]
          · try simp only [go_sem, qa, qb, qc, qd, qe, qf, qg, qh, qi, qj, qk, reduceCtorEq, reduceIte, c1, c2, c4, c5, c6]
            obtain ⟨v2, e7, h⟩ := bind_K h
            refine call_K (by first | exact i_FormatInt_ok e7 | simpa only [go_sem, qa, qb, qc, qd, qe, qf, qg, qh, qi, qj, qk, reduceCtorEq, reduceIte, c1, c2, c4, c5, c6] using i_FormatInt_ok e7) ?_
            try simp only [go_sem, qa, qb, qc, qd, qe, qf, qg, qh, qi, qj, qk, reduceCtorEq, reduceIte, c1, c2, c4, c5, c6]
            refine ite_K h (fun c8 h => ?_) (fun c8 h => ?_)
            · obtain rfl := Option.some.inj h
              try simp only [go_sem, qa, qb, qc, qd, qe, qf, qg, qh, qi, qj, qk, reduceCtorEq, reduceIte, c1, c2, c4, c5, c6, c8]
            · obtain rfl := Option.some.inj h
              try simp only [go_sem, qa, qb, qc, qd, qe, qf, qg, qh, qi, qj, qk, reduceCtorEq, reduceIte, c1, c2, c4, c5, c6, c8]
      · obtain rfl := Option.some.inj h
        try simp only [go_sem, qa, qb, qc, qd, qe, qf, qg, qh, qi, qj, qk, reduceCtorEq, reduceIte, c1, c2, c4]
theorem i_copyFact_ok {f_0 : FactD} {r : FactD} (h : i_copyFact f_0 = some r) : Sound Tryz.prog J0 83 [(true, eFact f_0)] [(true, [(false, .str r.rel), (false, .sl 9 1 (List.map eStr r.args))])] := by
  refine fnk Tryz.func83 (by kernel_rfl) rfl (by kernel_rfl) (by kernel_rfl) ?_
  unfold i_copyFact at h
  simp only [fnS, f83, argSt, go_sem, qa, qb, qc, qd, qe, qf, qg, qh, qi, qj, qk, reduceCtorEq, reduceIte]
  obtain ⟨v1, e1, h⟩ := bind_K h
  refine call_K (by first | exact i_copyTexts_ok e1 | simpa only [go_sem, qa, qb, qc, qd, qe, qf, qg, qh, qi, qj, qk, reduceCtorEq, reduceIte] using i_copyTexts_ok e1) ?_
  obtain rfl := Option.some.inj h
  try simp only [go_sem, qa, qb, qc, qd, qe, qf, qg, qh, qi, qj, qk, reduceCtorEq, reduceIte]
theorem i_sameFact_ok {a_0 : FactD} {b_1 : FactD} {r : Bool} (h : i_sameFact a_0 b_1 = some r) : Sound Tryz.prog J0 71 [(true, eFact a_0), (true, eFact b_1)] [(false, [(false, .bool r)])] := by
  refine fnk Tryz.func71 (by kernel_rfl) rfl (by kernel_rfl) (by kernel_rfl) ?_
  unfold i_sameFact at h
  simp only [fnS, f71, argSt, go_sem, qa, qb, qc, qd, qe, qf, qg, qh, qi, qj, qk, reduceCtorEq, reduceIte]
  refine ite_K h (fun c1 h => ?_) (fun c1 h => ?_)
  · try simp only [go_sem, qa, qb, qc, qd, qe, qf, qg, qh, qi, qj, qk, reduceCtorEq, reduceIte, c1]
    obtain ⟨v1, e2, h⟩ := bind_K h
    refine call_K (by first | exact i_sameTexts_ok e2 | simpa only [go_sem, qa, qb, qc, qd, qe, qf, qg, qh, qi, qj, qk, reduceCtorEq, reduceIte, c1] using i_sameTexts_ok e2) ?_
    obtain rfl := Option.some.inj h
    try simp only [go_sem, qa, qb, qc, qd, qe, qf, qg, qh, qi, qj, qk, reduceCtorEq, reduceIte, c1]
  · obtain rfl := Option.some.inj h
    try simp only [go_sem, qa, qb, qc, qd, qe, qf, qg, qh, qi, qj, qk, reduceCtorEq, reduceIte, c1]
end Go.Proofs.YtlkgkkacnoaeaaaGreatDoor

namespace Go.Proofs.YtlkgkkacnoaeaaaGreatDoor
open Go.Proofs.Tryz
open Int renaming reduceLT → qa, reduceLE → qb, reduceBEq → qc, reduceBNe → qd
open Nat renaming reduceBNe → qe, reduceAdd → qf, reduceMul → qg, reduceEqDiff → qh, reduceLeDiff → qi, reduceLT → qj, reduceBEq → qk
set_option linter.unusedSimpArgs false
set_option linter.unusedVariables false
set_option maxRecDepth 1000000
set_option maxHeartbeats 4000000
theorem s_IsName_ok {s_0 : ByteArray} {r : Bool} (h : s_IsName s_0 = some r) : Sound Tryz.prog J0 90 [(false, [.str s_0])] [(false, [(false, .bool r)])] := by
  refine fnk Tryz.func90 (by kernel_rfl) rfl (by kernel_rfl) (by kernel_rfl) ?_
  unfold s_IsName at h
  simp only [fnS, f90, argSt, go_sem, qa, qb, qc, qd, qe, qf, qg, qh, qi, qj, qk, reduceCtorEq, reduceIte]
  obtain ⟨v1, e1, h⟩ := bind_K h
  refine call_K (by first | exact s_IsAtom_ok e1 | simpa only [go_sem, qa, qb, qc, qd, qe, qf, qg, qh, qi, qj, qk, reduceCtorEq, reduceIte] using s_IsAtom_ok e1) ?_
  try simp only [go_sem, qa, qb, qc, qd, qe, qf, qg, qh, qi, qj, qk, reduceCtorEq, reduceIte]
  refine ite_K h (fun c2 h => ?_) (fun c2 h => ?_)
  · obtain ⟨b2, a3, e4, h⟩ := sat_K h
    try simp only [go_sem, qa, qb, qc, qd, qe, qf, qg, qh, qi, qj, qk, reduceCtorEq, reduceIte, c2, a3, e4]
    obtain ⟨v3, e5, h⟩ := bind_K h
    refine call_K (by first | exact s_l1In_ok e5 | simpa only [go_sem, qa, qb, qc, qd, qe, qf, qg, qh, qi, qj, qk, reduceCtorEq, reduceIte, c2, a3, e4] using s_l1In_ok e5) ?_
    obtain rfl := Option.some.inj h
    try simp only [go_sem, qa, qb, qc, qd, qe, qf, qg, qh, qi, qj, qk, reduceCtorEq, reduceIte, c2, a3, e4]
  · obtain rfl := Option.some.inj h
    try simp only [go_sem, qa, qb, qc, qd, qe, qf, qg, qh, qi, qj, qk, reduceCtorEq, reduceIte, c2]
theorem s_IsVar_ok {s_0 : ByteArray} {r : Bool} (h : s_IsVar s_0 = some r) : Sound Tryz.prog J0 91 [(false, [.str s_0])] [(false, [(false, .bool r)])] := by
  refine fnk Tryz.func91 (by kernel_rfl) rfl (by kernel_rfl) (by kernel_rfl) ?_
  unfold s_IsVar at h
  simp only [fnS, f91, argSt, go_sem, qa, qb, qc, qd, qe, qf, qg, qh, qi, qj, qk, reduceCtorEq, reduceIte]
  refine ite_K h (fun c1 h => ?_) (fun c1 h => ?_)
  · obtain ⟨b1, a2, e3, h⟩ := sat_K h
    try simp only [go_sem, qa, qb, qc, qd, qe, qf, qg, qh, qi, qj, qk, reduceCtorEq, reduceIte, c1, a2, e3]
    refine ite_K h (fun c4 h => ?_) (fun c4 h => ?_)
    · obtain ⟨p5, h⟩ := chk_K h
      try simp only [go_sem, qa, qb, qc, qd, qe, qf, qg, qh, qi, qj, qk, reduceCtorEq, reduceIte, c1, a2, e3, c4, p5.1, p5.2]
      obtain ⟨v2, e6, h⟩ := bind_K h
      refine call_K (by first | exact s_IsAtom_ok e6 | simpa only [go_sem, qa, qb, qc, qd, qe, qf, qg, qh, qi, qj, qk, reduceCtorEq, reduceIte, c1, a2, e3, c4, p5.1, p5.2] using s_IsAtom_ok e6) ?_
      obtain rfl := Option.some.inj h
      try simp only [go_sem, qa, qb, qc, qd, qe, qf, qg, qh, qi, qj, qk, reduceCtorEq, reduceIte, c1, a2, e3, c4, p5.1, p5.2]
    · obtain rfl := Option.some.inj h
      try simp only [go_sem, qa, qb, qc, qd, qe, qf, qg, qh, qi, qj, qk, reduceCtorEq, reduceIte, c1, a2, e3, c4]
  · obtain rfl := Option.some.inj h
    try simp only [go_sem, qa, qb, qc, qd, qe, qf, qg, qh, qi, qj, qk, reduceCtorEq, reduceIte, c1]
theorem s_CompareAtoms_ok {a_0 : ByteArray} {b_1 : ByteArray} {r : Int} (h : s_CompareAtoms a_0 b_1 = some r) : Sound Tryz.prog J0 105 [(false, [.str a_0]), (false, [.str b_1])] [(false, [(false, .int .i64 r)])] := by
  refine fnk Tryz.func105 (by kernel_rfl) rfl (by kernel_rfl) (by kernel_rfl) ?_
  unfold s_CompareAtoms at h
  simp only [fnS, f105, argSt, go_sem, qa, qb, qc, qd, qe, qf, qg, qh, qi, qj, qk, reduceCtorEq, reduceIte]
  obtain ⟨v1, e1, h⟩ := bind_K h
  refine call_K (by first | exact s_ParseInt_ok e1 | simpa only [go_sem, qa, qb, qc, qd, qe, qf, qg, qh, qi, qj, qk, reduceCtorEq, reduceIte] using s_ParseInt_ok e1) ?_
  try simp only [go_sem, qa, qb, qc, qd, qe, qf, qg, qh, qi, qj, qk, reduceCtorEq, reduceIte]
  obtain ⟨v2, e2, h⟩ := bind_K h
  refine call_K (by first | exact s_ParseInt_ok e2 | simpa only [go_sem, qa, qb, qc, qd, qe, qf, qg, qh, qi, qj, qk, reduceCtorEq, reduceIte] using s_ParseInt_ok e2) ?_
  try simp only [go_sem, qa, qb, qc, qd, qe, qf, qg, qh, qi, qj, qk, reduceCtorEq, reduceIte]
  refine ite_K h (fun c3 h => ?_) (fun c3 h => ?_)
  · try simp only [go_sem, qa, qb, qc, qd, qe, qf, qg, qh, qi, qj, qk, reduceCtorEq, reduceIte, c3]
    refine ite_K h (fun c4 h => ?_) (fun c4 h => ?_)
    · try simp only [go_sem, qa, qb, qc, qd, qe, qf, qg, qh, qi, qj, qk, reduceCtorEq, reduceIte, c3, c4]
      refine ite_K h (fun c5 h => ?_) (fun c5 h => ?_)
      · obtain rfl := Option.some.inj h
        try simp only [go_sem, qa, qb, qc, qd, qe, qf, qg, qh, qi, qj, qk, reduceCtorEq, reduceIte, c3, c4, c5]
      · try simp only [go_sem, qa, qb, qc, qd, qe, qf, qg, qh, qi, qj, qk, reduceCtorEq, reduceIte, c3, c4, c5]
        refine ite_K h (fun c6 h => ?_) (fun c6 h => ?_)
        · obtain rfl := Option.some.inj h
          try simp only [go_sem, qa, qb, qc, qd, qe, qf, qg, qh, qi, qj, qk, reduceCtorEq, reduceIte, c3, c4, c5, c6]
        · obtain rfl := Option.some.inj h
          try simp only [go_sem, qa, qb, qc, qd, qe, qf, qg, qh, qi, qj, qk, reduceCtorEq, reduceIte, c3, c4, c5, c6]
    · obtain rfl := Option.some.inj h
      try simp only [go_sem, qa, qb, qc, qd, qe, qf, qg, qh, qi, qj, qk, reduceCtorEq, reduceIte, c3, c4]
  · try simp only [go_sem, qa, qb, qc, qd, qe, qf, qg, qh, qi, qj, qk, reduceCtorEq, reduceIte, c3]
    refine ite_K h (fun c7 h => ?_) (fun c7 h => ?_)
    · obtain rfl := Option.some.inj h
      try simp only [go_sem, qa, qb, qc, qd, qe, qf, qg, qh, qi, qj, qk, reduceCtorEq, reduceIte, c3, c7]
    · try simp only [go_sem, qa, qb, qc, qd, qe, qf, qg, qh, qi, qj, qk, reduceCtorEq, reduceIte, c3, c7]
      obtain ⟨v3, e8, h⟩ := bind_K h
      refine call_K (by first | exact s_l1Cmp_ok e8 | simpa only [go_sem, qa, qb, qc, qd, qe, qf, qg, qh, qi, qj, qk, reduceCtorEq, reduceIte, c3, c7] using s_l1Cmp_ok e8) ?_
      obtain rfl := Option.some.inj h
      try simp only [go_sem, qa, qb, qc, qd, qe, qf, qg, qh, qi, qj, qk, reduceCtorEq, reduceIte, c3, c7]
theorem s_l2Copies_ok {l_0 : (List FactD)} {r : (List FactD)} (h : s_l2Copies l_0 = some r) : Sound Tryz.prog J0 36 [(false, [.sl 57 2 (List.map eFact l_0)])] [(false, [(false, .sl 57 2 (List.map eFact r))])] := by
  refine fnk Tryz.func36 (by kernel_rfl) rfl (by kernel_rfl) (by kernel_rfl) ?_
  unfold s_l2Copies at h
  simp only [fnS, f36, argSt, go_sem, qa, qb, qc, qd, qe, qf, qg, qh, qi, qj, qk, reduceCtorEq, reduceIte]
  refine swp_for h (fun i row_3 st => IV [(0, .p false [.c (.sl 57 2 (List.map eFact l_0))]), (3, .p false [.row 0]), (4, .p false [.c (.int .i64 ((i : Nat) : Int))])] [.row 57 2 (List.map eFact row_3) 2] st) [] [16] (by decide) ?_ ?_ ?_
  · simp only [go_sem, qa, qb, qc, qd, qe, qf, qg, qh, qi, qj, qk, reduceCtorEq, reduceIte, IV, sts_cons, sts_nil, obs_cons, obs_nil]
  · rintro i7 x8 row_3 ⟨sl, ob, n⟩ y1 hx2 hI3 hW4 h hy1
    simp only [IV, sts_cons, sts_nil, obs_cons, obs_nil, and_true, true_and, Nat.reduceAdd, str_len] at hI3
    obtain ⟨⟨g5_0, g5_3, g5_4⟩, og5_0, hn⟩ := hI3
    subst hn
    have hlhx2 := WF.slotL hW4 g5_0 (j := 0) rfl
    try simp only [go_sem, qa, qb, qc, qd, qe, qf, qg, qh, qi, qj, qk, reduceCtorEq, reduceIte, hx2, lt_t hx2, lt_p hx2, nat_in (lt_n hx2) hlhx2, g5_0, g5_3, g5_4, og5_0]
    obtain ⟨v9, e6, h⟩ := bind_K h
    refine call_K (by first | exact s_l2Copy_ok e6 | simpa only [go_sem, qa, qb, qc, qd, qe, qf, qg, qh, qi, qj, qk, reduceCtorEq, reduceIte, hx2, lt_t hx2, lt_p hx2, nat_in (lt_n hx2) hlhx2, g5_0, g5_3, g5_4, og5_0] using s_l2Copy_ok e6) ?_
    obtain ⟨p7, h⟩ := chk_K h
    try simp only [Nat.reduceLeDiff] at p7
    try simp only [go_sem, qa, qb, qc, qd, qe, qf, qg, qh, qi, qj, qk, reduceCtorEq, reduceIte, hx2, lt_t hx2, lt_p hx2, nat_in (lt_n hx2) hlhx2, p7, g5_0, g5_3, g5_4, og5_0]
    refine ⟨_, [], [177], (Option.some.inj h).symm, by decide, ?_⟩
    try simp only [go_sem, qa, qb, qc, qd, qe, qf, qg, qh, qi, qj, qk, reduceCtorEq, reduceIte, hx2, lt_t hx2, lt_p hx2, nat_in (lt_n hx2) hlhx2, p7, g5_0, g5_3, g5_4, og5_0, IV, sts_cons, sts_nil, obs_cons, obs_nil]
  · rintro row_3 ⟨sl, ob, n⟩ hI8 hW9 h
    simp only [IV, sts_cons, sts_nil, obs_cons, obs_nil, and_true, true_and, Nat.reduceAdd, str_len] at hI8
    obtain ⟨⟨g10_0, g10_3, g10_4⟩, og10_0, hn⟩ := hI8
    subst hn
    obtain rfl := Option.some.inj h
    try simp only [go_sem, qa, qb, qc, qd, qe, qf, qg, qh, qi, qj, qk, reduceCtorEq, reduceIte, lt_f (l_0.length), g10_0, g10_3, g10_4, og10_0]
theorem s_IsNumber_ok {s_0 : ByteArray} {r : Bool} (h : s_IsNumber s_0 = some r) : Sound Tryz.prog J0 161 [(false, [.str s_0])] [(false, [(false, .bool r)])] := by
  refine fnk Tryz.func161 (by kernel_rfl) rfl (by kernel_rfl) (by kernel_rfl) ?_
  unfold s_IsNumber at h
  simp only [fnS, f161, argSt, go_sem, qa, qb, qc, qd, qe, qf, qg, qh, qi, qj, qk, reduceCtorEq, reduceIte]
  obtain ⟨v1, e1, h⟩ := bind_K h
  refine call_K (by first | exact s_ParseInt_ok e1 | simpa only [go_sem, qa, qb, qc, qd, qe, qf, qg, qh, qi, qj, qk, reduceCtorEq, reduceIte] using s_ParseInt_ok e1) ?_
  obtain rfl := Option.some.inj h
  try simp only [go_sem, qa, qb, qc, qd, qe, qf, qg, qh, qi, qj, qk, reduceCtorEq, reduceIte]
theorem s_FindFact_ok {l_0 : (List FactD)} {f_1 : FactD} {r : Int} (h : s_FindFact l_0 f_1 = some r) : Sound Tryz.prog J0 23 [(false, [.sl 57 2 (List.map eFact l_0)]), (true, eFact f_1)] [(false, [(false, .int .i64 r)])] := by
  refine fnk Tryz.func23 (by kernel_rfl) rfl (by kernel_rfl) (by kernel_rfl) ?_
  unfold s_FindFact at h
  simp only [fnS, f23, argSt, go_sem, qa, qb, qc, qd, qe, qf, qg, qh, qi, qj, qk, reduceCtorEq, reduceIte]
  refine swp_for h (fun i _ st => IV [(0, .p false [.c (.sl 57 2 (List.map eFact l_0))]), (3, .bp 0 0), (5, .p false [.c (.int .i64 ((i : Nat) : Int))])] [.box 57 [.c (.str f_1.rel), .c (.sl 9 1 (List.map eStr f_1.args))]] st) [] [0] (by decide) ?_ ?_ ?_
  · simp only [go_sem, qa, qb, qc, qd, qe, qf, qg, qh, qi, qj, qk, reduceCtorEq, reduceIte, IV, sts_cons, sts_nil, obs_cons, obs_nil]
  · rintro i6 x7 ⟨⟩ ⟨sl, ob, n⟩ y1 hx2 hI3 hW4 h hy1
    simp only [IV, sts_cons, sts_nil, obs_cons, obs_nil, and_true, true_and, Nat.reduceAdd, str_len] at hI3
    obtain ⟨⟨g5_0, g5_3, g5_5⟩, og5_0, hn⟩ := hI3
    subst hn
    have hlhx2 := WF.slotL hW4 g5_0 (j := 0) rfl
    try simp only [go_sem, qa, qb, qc, qd, qe, qf, qg, qh, qi, qj, qk, reduceCtorEq, reduceIte, hx2, lt_t hx2, lt_p hx2, nat_in (lt_n hx2) hlhx2, g5_0, g5_3, g5_5, og5_0]
    obtain ⟨v8, e6, h⟩ := bind_K h
    refine call_K (by first | exact s_l2Same_ok e6 | simpa only [go_sem, qa, qb, qc, qd, qe, qf, qg, qh, qi, qj, qk, reduceCtorEq, reduceIte, hx2, lt_t hx2, lt_p hx2, nat_in (lt_n hx2) hlhx2, g5_0, g5_3, g5_5, og5_0] using s_l2Same_ok e6) ?_
    try simp only [go_sem, qa, qb, qc, qd, qe, qf, qg, qh, qi, qj, qk, reduceCtorEq, reduceIte, hx2, lt_t hx2, lt_p hx2, nat_in (lt_n hx2) hlhx2, g5_0, g5_3, g5_5, og5_0]
    refine ite_K h (fun c7 h => ?_) (fun c7 h => ?_)
    · replace h := inr_K h hy1
      obtain rfl := Option.some.inj h
      try simp only [go_sem, qa, qb, qc, qd, qe, qf, qg, qh, qi, qj, qk, reduceCtorEq, reduceIte, hx2, lt_t hx2, lt_p hx2, nat_in (lt_n hx2) hlhx2, c7, g5_0, g5_3, g5_5, og5_0]
    · try simp only [go_sem, qa, qb, qc, qd, qe, qf, qg, qh, qi, qj, qk, reduceCtorEq, reduceIte, hx2, lt_t hx2, lt_p hx2, nat_in (lt_n hx2) hlhx2, c7, g5_0, g5_3, g5_5, og5_0]
      refine ⟨_, [], [0], (Option.some.inj h).symm, by decide, ?_⟩
      try simp only [go_sem, qa, qb, qc, qd, qe, qf, qg, qh, qi, qj, qk, reduceCtorEq, reduceIte, hx2, lt_t hx2, lt_p hx2, nat_in (lt_n hx2) hlhx2, c7, g5_0, g5_3, g5_5, og5_0, IV, sts_cons, sts_nil, obs_cons, obs_nil]
  · rintro ⟨⟩ ⟨sl, ob, n⟩ hI8 hW9 h
    simp only [IV, sts_cons, sts_nil, obs_cons, obs_nil, and_true, true_and, Nat.reduceAdd, str_len] at hI8
    obtain ⟨⟨g10_0, g10_3, g10_5⟩, og10_0, hn⟩ := hI8
    subst hn
    obtain rfl := Option.some.inj h
    try simp only [go_sem, qa, qb, qc, qd, qe, qf, qg, qh, qi, qj, qk, reduceCtorEq, reduceIte, lt_f (l_0.length), g10_0, g10_3, g10_5, og10_0]
theorem i_IsTerm_ok {s_0 : ByteArray} {r : Bool} (h : i_IsTerm s_0 = some r) : Sound Tryz.prog J0 121 [(false, [.str s_0])] [(false, [(false, .bool r)])] := by
  refine fnk Tryz.func121 (by kernel_rfl) rfl (by kernel_rfl) (by kernel_rfl) ?_
  unfold i_IsTerm at h
  simp only [fnS, f121, argSt, go_sem, qa, qb, qc, qd, qe, qf, qg, qh, qi, qj, qk, reduceCtorEq, reduceIte]
  obtain ⟨v1, e1, h⟩ := bind_K h
  refine call_K (by first | exact i_IsAtom_ok e1 | simpa only [go_sem, qa, qb, qc, qd, qe, qf, qg, qh, qi, qj, qk, reduceCtorEq, reduceIte] using i_IsAtom_ok e1) ?_
  try simp only [go_sem, qa, qb, qc, qd, qe, qf, qg, qh, qi, qj, qk, reduceCtorEq, reduceIte]
  refine ite_K h (fun c2 h => ?_) (fun c2 h => ?_)
  · obtain rfl := Option.some.inj h
    try simp only [go_sem, qa, qb, qc, qd, qe, qf, qg, qh, qi, qj, qk, reduceCtorEq, reduceIte, c2]
  · try simp only [go_sem, qa, qb, qc, qd, qe, qf, qg, qh, qi, qj, qk, reduceCtorEq, reduceIte, c2]
    obtain ⟨v2, e3, h⟩ := bind_K h
    refine call_K (by first | exact i_IsVar_ok e3 | simpa only [go_sem, qa, qb, qc, qd, qe, qf, qg, qh, qi, qj, qk, reduceCtorEq, reduceIte, c2] using i_IsVar_ok e3) ?_
    obtain rfl := Option.some.inj h
    try simp only [go_sem, qa, qb, qc, qd, qe, qf, qg, qh, qi, qj, qk, reduceCtorEq, reduceIte, c2]
theorem i_varsAmong_ok {l_0 : (List ByteArray)} {r : (List ByteArray)} (h : i_varsAmong l_0 = some r) : Sound Tryz.prog J0 113 [(false, [.sl 9 1 (List.map eStr l_0)])] [(false, [(false, .sl 9 1 (List.map eStr r))])] := by
  refine fnk Tryz.func113 (by kernel_rfl) rfl (by kernel_rfl) (by kernel_rfl) ?_
  unfold i_varsAmong at h
  simp only [fnS, f113, argSt, go_sem, qa, qb, qc, qd, qe, qf, qg, qh, qi, qj, qk, reduceCtorEq, reduceIte]
  refine swp_for h (fun i row_5 st => IV [(3, .p false [.row 0]), (6, .p false [.c (.sl 9 1 (List.map eStr l_0))]), (7, .p false [.c (.int .i64 ((l_0.length : Nat) : Int))]), (8, .p false [.c (.int .i64 ((i : Nat) : Int))])] [.row 9 1 (List.map eStr row_5) 2] st) [(false, 3, 0)] [80] (by decide) ?_ ?_ ?_
  · simp only [go_sem, qa, qb, qc, qd, qe, qf, qg, qh, qi, qj, qk, reduceCtorEq, reduceIte, IV, sts_cons, sts_nil, obs_cons, obs_nil]
  · rintro i9 x10 row_5 ⟨sl, ob, n⟩ y1 hx2 hI3 hW4 h hy1
    simp only [IV, sts_cons, sts_nil, obs_cons, obs_nil, and_true, true_and, Nat.reduceAdd, str_len] at hI3
    obtain ⟨⟨g5_3, g5_6, g5_7, g5_8⟩, og5_0, hn⟩ := hI3
    subst hn
    have hlhx2 := WF.slotL hW4 g5_6 (j := 0) rfl
    try simp only [go_sem, qa, qb, qc, qd, qe, qf, qg, qh, qi, qj, qk, reduceCtorEq, reduceIte, hx2, lt_t hx2, lt_p hx2, nat_in (lt_n hx2) hlhx2, g5_3, g5_6, g5_7, g5_8, og5_0]
    obtain ⟨v11, e6, h⟩ := bind_K h
    refine call_K (by first | exact i_IsVar_ok e6 | simpa only [go_sem, qa, qb, qc, qd, qe, qf, qg, qh, qi, qj, qk, reduceCtorEq, reduceIte, hx2, lt_t hx2, lt_p hx2, nat_in (lt_n hx2) hlhx2, g5_3, g5_6, g5_7, g5_8, og5_0] using i_IsVar_ok e6) ?_
    try simp only [go_sem, qa, qb, qc, qd, qe, qf, qg, qh, qi, qj, qk, reduceCtorEq, reduceIte, hx2, lt_t hx2, lt_p hx2, nat_in (lt_n hx2) hlhx2, g5_3, g5_6, g5_7, g5_8, og5_0]
    refine ite_K h (fun c7 h => ?_) (fun c7 h => ?_)
    · obtain ⟨p8, h⟩ := chk_K h
      try simp only [Nat.reduceLeDiff] at p8
      try simp only [go_sem, qa, qb, qc, qd, qe, qf, qg, qh, qi, qj, qk, reduceCtorEq, reduceIte, hx2, lt_t hx2, lt_p hx2, nat_in (lt_n hx2) hlhx2, c7, p8, g5_3, g5_6, g5_7, g5_8, og5_0]
      refine ⟨_, [], [145], (Option.some.inj h).symm, by decide, ?_⟩
      try simp only [go_sem, qa, qb, qc, qd, qe, qf, qg, qh, qi, qj, qk, reduceCtorEq, reduceIte, hx2, lt_t hx2, lt_p hx2, nat_in (lt_n hx2) hlhx2, c7, p8, g5_3, g5_6, g5_7, g5_8, og5_0, IV, sts_cons, sts_nil, obs_cons, obs_nil]
    · try simp only [go_sem, qa, qb, qc, qd, qe, qf, qg, qh, qi, qj, qk, reduceCtorEq, reduceIte, hx2, lt_t hx2, lt_p hx2, nat_in (lt_n hx2) hlhx2, c7, g5_3, g5_6, g5_7, g5_8, og5_0]
      refine ⟨_, [], [0], (Option.some.inj h).symm, by decide, ?_⟩
      try simp only [go_sem, qa, qb, qc, qd, qe, qf, qg, qh, qi, qj, qk, reduceCtorEq, reduceIte, hx2, lt_t hx2, lt_p hx2, nat_in (lt_n hx2) hlhx2, c7, g5_3, g5_6, g5_7, g5_8, og5_0, IV, sts_cons, sts_nil, obs_cons, obs_nil]
  · rintro row_5 ⟨sl, ob, n⟩ hI9 hW10 h
    simp only [IV, sts_cons, sts_nil, obs_cons, obs_nil, and_true, true_and, Nat.reduceAdd, str_len] at hI9
    obtain ⟨⟨g11_3, g11_6, g11_7, g11_8⟩, og11_0, hn⟩ := hI9
    subst hn
    obtain rfl := Option.some.inj h
    try simp only [go_sem, qa, qb, qc, qd, qe, qf, qg, qh, qi, qj, qk, reduceCtorEq, reduceIte, lt_f (l_0.length), g11_3, g11_6, g11_7, g11_8, og11_0]
theorem i_IsFact_ok {f_0 : FactD} {r : Bool} (h : i_IsFact f_0 = some r) : Sound Tryz.prog J0 66 [(true, eFact f_0)] [(false, [(false, .bool r)])] := by
  refine fnk Tryz.func66 (by kernel_rfl) rfl (by kernel_rfl) (by kernel_rfl) ?_
  unfold i_IsFact at h
  simp only [fnS, f66, argSt, go_sem, qa, qb, qc, qd, qe, qf, qg, qh, qi, qj, qk, reduceCtorEq, reduceIte]
  obtain ⟨v1, e1, h⟩ := bind_K h
  refine call_K (by first | exact i_IsName_ok e1 | simpa only [go_sem, qa, qb, qc, qd, qe, qf, qg, qh, qi, qj, qk, reduceCtorEq, reduceIte] using i_IsName_ok e1) ?_
  try simp only [go_sem, qa, qb, qc, qd, qe, qf, qg, qh, qi, qj, qk, reduceCtorEq, reduceIte]
  refine ite_K h (fun c2 h => ?_) (fun c2 h => ?_)
  · try simp only [go_sem, qa, qb, qc, qd, qe, qf, qg, qh, qi, qj, qk, reduceCtorEq, reduceIte, c2]
    refine ite_K h (fun c3 h => ?_) (fun c3 h => ?_)
    · obtain rfl := Option.some.inj h
      try simp only [go_sem, qa, qb, qc, qd, qe, qf, qg, qh, qi, qj, qk, reduceCtorEq, reduceIte, c2, c3]
    · try simp only [go_sem, qa, qb, qc, qd, qe, qf, qg, qh, qi, qj, qk, reduceCtorEq, reduceIte, c2, c3]
      refine swp_for h (fun i _ st => IV [(16, .p false [.c (.sl 9 1 (List.map eStr f_0.args))]), (17, .p false [.c (.int .i64 ((f_0.args.length : Nat) : Int))]), (18, .p false [.c (.int .i64 ((i : Nat) : Int))])] [] st) [] [] (by decide) ?_ ?_ ?_
      · simp only [go_sem, qa, qb, qc, qd, qe, qf, qg, qh, qi, qj, qk, reduceCtorEq, reduceIte, IV, sts_cons, sts_nil, obs_cons, obs_nil, c2, c3]
      · rintro i7 x8 ⟨⟩ ⟨sl, ob, n⟩ y4 hx5 hI6 hW7 h hy4
        simp only [IV, sts_cons, sts_nil, obs_cons, obs_nil, and_true, true_and, Nat.reduceAdd, str_len] at hI6
        obtain ⟨⟨g8_16, g8_17, g8_18⟩, hn⟩ := hI6
        subst hn
        have hlhx5 := WF.slotL hW7 g8_16 (j := 0) rfl
        try simp only [go_sem, qa, qb, qc, qd, qe, qf, qg, qh, qi, qj, qk, reduceCtorEq, reduceIte, c2, c3, hx5, lt_t hx5, lt_p hx5, nat_in (lt_n hx5) hlhx5, g8_16, g8_17, g8_18]
        obtain ⟨v9, e9, h⟩ := bind_K h
        refine call_K (by first | exact i_IsAtom_ok e9 | simpa only [go_sem, qa, qb, qc, qd, qe, qf, qg, qh, qi, qj, qk, reduceCtorEq, reduceIte, c2, c3, hx5, lt_t hx5, lt_p hx5, nat_in (lt_n hx5) hlhx5, g8_16, g8_17, g8_18] using i_IsAtom_ok e9) ?_
        try simp only [go_sem, qa, qb, qc, qd, qe, qf, qg, qh, qi, qj, qk, reduceCtorEq, reduceIte, c2, c3, hx5, lt_t hx5, lt_p hx5, nat_in (lt_n hx5) hlhx5, g8_16, g8_17, g8_18]
        refine ite_K h (fun c10 h => ?_) (fun c10 h => ?_)
        · try simp only [go_sem, qa, qb, qc, qd, qe, qf, qg, qh, qi, qj, qk, reduceCtorEq, reduceIte, c2, c3, hx5, lt_t hx5, lt_p hx5, nat_in (lt_n hx5) hlhx5, c10, g8_16, g8_17, g8_18]
          refine ⟨_, [], [], (Option.some.inj h).symm, by decide, ?_⟩
          try simp only [go_sem, qa, qb, qc, qd, qe, qf, qg, qh, qi, qj, qk, reduceCtorEq, reduceIte, c2, c3, hx5, lt_t hx5, lt_p hx5, nat_in (lt_n hx5) hlhx5, c10, g8_16, g8_17, g8_18, IV, sts_cons, sts_nil, obs_cons, obs_nil]
        · replace h := inr_K h hy4
          obtain rfl := Option.some.inj h
          try simp only [go_sem, qa, qb, qc, qd, qe, qf, qg, qh, qi, qj, qk, reduceCtorEq, reduceIte, c2, c3, hx5, lt_t hx5, lt_p hx5, nat_in (lt_n hx5) hlhx5, c10, g8_16, g8_17, g8_18]
      · rintro ⟨⟩ ⟨sl, ob, n⟩ hI11 hW12 h
        simp only [IV, sts_cons, sts_nil, obs_cons, obs_nil, and_true, true_and, Nat.reduceAdd, str_len] at hI11
        obtain ⟨⟨g13_16, g13_17, g13_18⟩, hn⟩ := hI11
        subst hn
        obtain rfl := Option.some.inj h
        try simp only [go_sem, qa, qb, qc, qd, qe, qf, qg, qh, qi, qj, qk, reduceCtorEq, reduceIte, c2, c3, lt_f (f_0.args.length), g13_16, g13_17, g13_18]
  · obtain rfl := Option.some.inj h
    try simp only [go_sem, qa, qb, qc, qd, qe, qf, qg, qh, qi, qj, qk, reduceCtorEq, reduceIte, c2]
theorem i_CompareAtoms_ok {a_0 : ByteArray} {b_1 : ByteArray} {r : Int} (h : i_CompareAtoms a_0 b_1 = some r) : Sound Tryz.prog J0 119 [(false, [.str a_0]), (false, [.str b_1])] [(false, [(false, .int .i64 r)])] := by
  refine fnk Tryz.func119 (by kernel_rfl) rfl (by kernel_rfl) (by kernel_rfl) ?_
  unfold i_CompareAtoms at h
  simp only [fnS, f119, argSt, go_sem, qa, qb, qc, qd, qe, qf, qg, qh, qi, qj, qk, reduceCtorEq, reduceIte]
  obtain ⟨v1, e1, h⟩ := bind_K h
  refine call_K (by first | exact i_ParseInt_ok e1 | simpa only [go_sem, qa, qb, qc, qd, qe, qf, qg, qh, qi, qj, qk, reduceCtorEq, reduceIte] using i_ParseInt_ok e1) ?_
  try simp only [go_sem, qa, qb, qc, qd, qe, qf, qg, qh, qi, qj, qk, reduceCtorEq, reduceIte]
  obtain ⟨v2, e2, h⟩ := bind_K h
  refine call_K (by first | exact i_ParseInt_ok e2 | simpa only [go_sem, qa, qb, qc, qd, qe, qf, qg, qh, qi, qj, qk, reduceCtorEq, reduceIte] using i_ParseInt_ok e2) ?_
  try simp only [go_sem, qa, qb, qc, qd, qe, qf, qg, qh, qi, qj, qk, reduceCtorEq, reduceIte]
  refine ite_K h (fun c3 h => ?_) (fun c3 h => ?_)
  · try simp only [go_sem, qa, qb, qc, qd, qe, qf, qg, qh, qi, qj, qk, reduceCtorEq, reduceIte, c3]
    refine ite_K h (fun c4 h => ?_) (fun c4 h => ?_)
    · try simp only [go_sem, qa, qb, qc, qd, qe, qf, qg, qh, qi, qj, qk, reduceCtorEq, reduceIte, c3, c4]
      obtain ⟨v3, e5, h⟩ := bind_K h
      refine call_K (by first | exact i_compareInts_ok e5 | simpa only [go_sem, qa, qb, qc, qd, qe, qf, qg, qh, qi, qj, qk, reduceCtorEq, reduceIte, c3, c4] using i_compareInts_ok e5) ?_
      obtain rfl := Option.some.inj h
      try simp only [go_sem, qa, qb, qc, qd, qe, qf, qg, qh, qi, qj, qk, reduceCtorEq, reduceIte, c3, c4]
    · obtain rfl := Option.some.inj h
      try simp only [go_sem, qa, qb, qc, qd, qe, qf, qg, qh, qi, qj, qk, reduceCtorEq, reduceIte, c3, c4]
  · try simp only [go_sem, qa, qb, qc, qd, qe, qf, qg, qh, qi, qj, qk, reduceCtorEq, reduceIte, c3]
    refine ite_K h (fun c6 h => ?_) (fun c6 h => ?_)
    · obtain rfl := Option.some.inj h
      try simp only [go_sem, qa, qb, qc, qd, qe, qf, qg, qh, qi, qj, qk, reduceCtorEq, reduceIte, c3, c6]
    · try simp only [go_sem, qa, qb, qc, qd, qe, qf, qg, qh, qi, qj, qk, reduceCtorEq, reduceIte, c3, c6]
      obtain ⟨v4, e7, h⟩ := bind_K h
      refine call_K (by first | exact x_Compare_ok e7 | simpa only [go_sem, qa, qb, qc, qd, qe, qf, qg, qh, qi, qj, qk, reduceCtorEq, reduceIte, c3, c6] using x_Compare_ok e7) ?_
      obtain rfl := Option.some.inj h
      try simp only [go_sem, qa, qb, qc, qd, qe, qf, qg, qh, qi, qj, qk, reduceCtorEq, reduceIte, c3, c6]
theorem i_copyFacts_ok {l_0 : (List FactD)} {r : (List FactD)} (h : i_copyFacts l_0 = some r) : Sound Tryz.prog J0 41 [(false, [.sl 57 2 (List.map eFact l_0)])] [(false, [(false, .sl 57 2 (List.map eFact r))])] := by
  refine fnk Tryz.func41 (by kernel_rfl) rfl (by kernel_rfl) (by kernel_rfl) ?_
  unfold i_copyFacts at h
  simp only [fnS, f41, argSt, go_sem, qa, qb, qc, qd, qe, qf, qg, qh, qi, qj, qk, reduceCtorEq, reduceIte]
  refine swp_for h (fun i row_5 st => IV [(3, .p false [.row 0]), (6, .p false [.c (.sl 57 2 (List.map eFact l_0))]), (7, .p false [.c (.int .i64 ((l_0.length : Nat) : Int))]), (8, .p false [.c (.int .i64 ((i : Nat) : Int))])] [.row 57 2 (List.map eFact row_5) 2] st) [(false, 3, 0)] [80] (by decide) ?_ ?_ ?_
  · simp only [go_sem, qa, qb, qc, qd, qe, qf, qg, qh, qi, qj, qk, reduceCtorEq, reduceIte, IV, sts_cons, sts_nil, obs_cons, obs_nil]
  · rintro i9 x10 row_5 ⟨sl, ob, n⟩ y1 hx2 hI3 hW4 h hy1
    simp only [IV, sts_cons, sts_nil, obs_cons, obs_nil, and_true, true_and, Nat.reduceAdd, str_len] at hI3
    obtain ⟨⟨g5_3, g5_6, g5_7, g5_8⟩, og5_0, hn⟩ := hI3
    subst hn
    have hlhx2 := WF.slotL hW4 g5_6 (j := 0) rfl
    try simp only [go_sem, qa, qb, qc, qd, qe, qf, qg, qh, qi, qj, qk, reduceCtorEq, reduceIte, hx2, lt_t hx2, lt_p hx2, nat_in (lt_n hx2) hlhx2, g5_3, g5_6, g5_7, g5_8, og5_0]
    obtain ⟨v11, e6, h⟩ := bind_K h
    refine call_K (by first | exact i_copyFact_ok e6 | simpa only [go_sem, qa, qb, qc, qd, qe, qf, qg, qh, qi, qj, qk, reduceCtorEq, reduceIte, hx2, lt_t hx2, lt_p hx2, nat_in (lt_n hx2) hlhx2, g5_3, g5_6, g5_7, g5_8, og5_0] using i_copyFact_ok e6) ?_
    obtain ⟨p7, h⟩ := chk_K h
    try simp only [Nat.reduceLeDiff] at p7
    try simp only [go_sem, qa, qb, qc, qd, qe, qf, qg, qh, qi, qj, qk, reduceCtorEq, reduceIte, hx2, lt_t hx2, lt_p hx2, nat_in (lt_n hx2) hlhx2, p7, g5_3, g5_6, g5_7, g5_8, og5_0]
    refine ⟨_, [], [145], (Option.some.inj h).symm, by decide, ?_⟩
    try simp only [go_sem, qa, qb, qc, qd, qe, qf, qg, qh, qi, qj, qk, reduceCtorEq, reduceIte, hx2, lt_t hx2, lt_p hx2, nat_in (lt_n hx2) hlhx2, p7, g5_3, g5_6, g5_7, g5_8, og5_0, IV, sts_cons, sts_nil, obs_cons, obs_nil]
  · rintro row_5 ⟨sl, ob, n⟩ hI8 hW9 h
    simp only [IV, sts_cons, sts_nil, obs_cons, obs_nil, and_true, true_and, Nat.reduceAdd, str_len] at hI8
    obtain ⟨⟨g10_3, g10_6, g10_7, g10_8⟩, og10_0, hn⟩ := hI8
    subst hn
    obtain rfl := Option.some.inj h
    try simp only [go_sem, qa, qb, qc, qd, qe, qf, qg, qh, qi, qj, qk, reduceCtorEq, reduceIte, lt_f (l_0.length), g10_3, g10_6, g10_7, g10_8, og10_0]
theorem i_IsBinding_ok {b_0 : (List PairD)} {r : Bool} (h : i_IsBinding b_0 = some r) : Sound Tryz.prog J0 69 [(false, [.sl 119 2 (List.map ePair b_0)])] [(false, [(false, .bool r)])] := by
  refine fnk Tryz.func69 (by kernel_rfl) rfl (by kernel_rfl) (by kernel_rfl) ?_
  unfold i_IsBinding at h
  simp only [fnS, f69, argSt, go_sem, qa, qb, qc, qd, qe, qf, qg, qh, qi, qj, qk, reduceCtorEq, reduceIte]
  refine ite_K h (fun c1 h => ?_) (fun c1 h => ?_)
  · obtain rfl := Option.some.inj h
    try simp only [go_sem, qa, qb, qc, qd, qe, qf, qg, qh, qi, qj, qk, reduceCtorEq, reduceIte, c1]
  · try simp only [go_sem, qa, qb, qc, qd, qe, qf, qg, qh, qi, qj, qk, reduceCtorEq, reduceIte, c1]
    refine swp_for h (fun i _ st => IV [(0, .p false [.c (.sl 119 2 (List.map ePair b_0))]), (8, .p false [.c (.sl 119 2 (List.map ePair b_0))]), (9, .p false [.c (.int .i64 ((b_0.length : Nat) : Int))]), (10, .p false [.c (.int .i64 ((i : Nat) : Int))])] [] st) [] [] (by decide) ?_ ?_ ?_
    · simp only [go_sem, qa, qb, qc, qd, qe, qf, qg, qh, qi, qj, qk, reduceCtorEq, reduceIte, IV, sts_cons, sts_nil, obs_cons, obs_nil, c1]
    · rintro i9 x10 ⟨⟩ ⟨sl, ob, n⟩ y2 hx3 hI4 hW5 h hy2
      simp only [IV, sts_cons, sts_nil, obs_cons, obs_nil, and_true, true_and, Nat.reduceAdd, str_len] at hI4
      obtain ⟨⟨g6_0, g6_8, g6_9, g6_10⟩, hn⟩ := hI4
      subst hn
      have hlhx3 := WF.slotL hW5 g6_0 (j := 0) rfl
      try simp only [go_sem, qa, qb, qc, qd, qe, qf, qg, qh, qi, qj, qk, reduceCtorEq, reduceIte, c1, hx3, lt_t hx3, lt_p hx3, nat_in (lt_n hx3) hlhx3, g6_0, g6_8, g6_9, g6_10]
      obtain ⟨v11, e7, h⟩ := bind_K h
      refine call_K (by first | exact i_IsVar_ok e7 | simpa only [go_sem, qa, qb, qc, qd, qe, qf, qg, qh, qi, qj, qk, reduceCtorEq, reduceIte, c1, hx3, lt_t hx3, lt_p hx3, nat_in (lt_n hx3) hlhx3, g6_0, g6_8, g6_9, g6_10] using i_IsVar_ok e7) ?_
      try simp only [go_sem, qa, qb, qc, qd, qe, qf, qg, qh, qi, qj, qk, reduceCtorEq, reduceIte, c1, hx3, lt_t hx3, lt_p hx3, nat_in (lt_n hx3) hlhx3, g6_0, g6_8, g6_9, g6_10]
      refine ite_K h (fun c8 h => ?_) (fun c8 h => ?_)
      · try simp only [go_sem, qa, qb, qc, qd, qe, qf, qg, qh, qi, qj, qk, reduceCtorEq, reduceIte, c1, hx3, lt_t hx3, lt_p hx3, nat_in (lt_n hx3) hlhx3, c8, g6_0, g6_8, g6_9, g6_10]
        obtain ⟨v12, e9, h⟩ := bind_K h
        refine call_K (by first | exact i_IsAtom_ok e9 | simpa only [go_sem, qa, qb, qc, qd, qe, qf, qg, qh, qi, qj, qk, reduceCtorEq, reduceIte, c1, hx3, lt_t hx3, lt_p hx3, nat_in (lt_n hx3) hlhx3, c8, g6_0, g6_8, g6_9, g6_10] using i_IsAtom_ok e9) ?_
        try simp only [go_sem, qa, qb, qc, qd, qe, qf, qg, qh, qi, qj, qk, reduceCtorEq, reduceIte, c1, hx3, lt_t hx3, lt_p hx3, nat_in (lt_n hx3) hlhx3, c8, g6_0, g6_8, g6_9, g6_10]
        refine ite_K h (fun c10 h => ?_) (fun c10 h => ?_)
        · try simp only [go_sem, qa, qb, qc, qd, qe, qf, qg, qh, qi, qj, qk, reduceCtorEq, reduceIte, c1, hx3, lt_t hx3, lt_p hx3, nat_in (lt_n hx3) hlhx3, c8, c10, g6_0, g6_8, g6_9, g6_10]
          refine ite_K h (fun c11 h => ?_) (fun c11 h => ?_)
          · obtain ⟨x13, a12, a13, e14, h⟩ := at_K h
            try simp only [go_sem, qa, qb, qc, qd, qe, qf, qg, qh, qi, qj, qk, reduceCtorEq, reduceIte, c1, hx3, lt_t hx3, lt_p hx3, nat_in (lt_n hx3) hlhx3, c8, c10, c11, a12, a13, e14, g6_0, g6_8, g6_9, g6_10]
            refine ite_K h (fun c15 h => ?_) (fun c15 h => ?_)
            · try simp only [go_sem, qa, qb, qc, qd, qe, qf, qg, qh, qi, qj, qk, reduceCtorEq, reduceIte, c1, hx3, lt_t hx3, lt_p hx3, nat_in (lt_n hx3) hlhx3, c8, c10, c11, a12, a13, e14, c15, g6_0, g6_8, g6_9, g6_10]
              refine ⟨_, [], [], (Option.some.inj h).symm, by decide, ?_⟩
              try simp only [go_sem, qa, qb, qc, qd, qe, qf, qg, qh, qi, qj, qk, reduceCtorEq, reduceIte, c1, hx3, lt_t hx3, lt_p hx3, nat_in (lt_n hx3) hlhx3, c8, c10, c11, a12, a13, e14, c15, g6_0, g6_8, g6_9, g6_10, IV, sts_cons, sts_nil, obs_cons, obs_nil]
            · replace h := inr_K h hy2
              obtain rfl := Option.some.inj h
              try simp only [go_sem, qa, qb, qc, qd, qe, qf, qg, qh, qi, qj, qk, reduceCtorEq, reduceIte, c1, hx3, lt_t hx3, lt_p hx3, nat_in (lt_n hx3) hlhx3, c8, c10, c11, a12, a13, e14, c15, g6_0, g6_8, g6_9, g6_10]
          · try simp only [go_sem, qa, qb, qc, qd, qe, qf, qg, qh, qi, qj, qk, reduceCtorEq, reduceIte, c1, hx3, lt_t hx3, lt_p hx3, nat_in (lt_n hx3) hlhx3, c8, c10, c11, g6_0, g6_8, g6_9, g6_10]
            refine ⟨_, [], [], (Option.some.inj h).symm, by decide, ?_⟩
            try simp only [go_sem, qa, qb, qc, qd, qe, qf, qg, qh, qi, qj, qk, reduceCtorEq, reduceIte, c1, hx3, lt_t hx3, lt_p hx3, nat_in (lt_n hx3) hlhx3, c8, c10, c11, g6_0, g6_8, g6_9, g6_10, IV, sts_cons, sts_nil, obs_cons, obs_nil]
        · replace h := inr_K h hy2
          obtain rfl := Option.some.inj h
          try simp only [go_sem, qa, qb, qc, qd, qe, qf, qg, qh, qi, qj, qk, reduceCtorEq, reduceIte, c1, hx3, lt_t hx3, lt_p hx3, nat_in (lt_n hx3) hlhx3, c8, c10, g6_0, g6_8, g6_9, g6_10]
      · replace h := inr_K h hy2
        obtain rfl := Option.some.inj h
        try simp only [go_sem, qa, qb, qc, qd, qe, qf, qg, qh, qi, qj, qk, reduceCtorEq, reduceIte, c1, hx3, lt_t hx3, lt_p hx3, nat_in (lt_n hx3) hlhx3, c8, g6_0, g6_8, g6_9, g6_10]
    · rintro ⟨⟩ ⟨sl, ob, n⟩ hI16 hW17 h
      simp only [IV, sts_cons, sts_nil, obs_cons, obs_nil, and_true, true_and, Nat.reduceAdd, str_len] at hI16
      obtain ⟨⟨g18_0, g18_8, g18_9, g18_10⟩, hn⟩ := hI16
      subst hn
      obtain rfl := Option.some.inj h
      try simp only [go_sem, qa, qb, qc, qd, qe, qf, qg, qh, qi, qj, qk, reduceCtorEq, reduceIte, c1, lt_f (b_0.length), g18_0, g18_8, g18_9, g18_10]
theorem i_ValueOf_ok {b_0 : (List PairD)} {term_1 : ByteArray} {r : (ByteArray × Bool)} (h : i_ValueOf b_0 term_1 = some r) : Sound Tryz.prog J0 70 [(false, [.sl 119 2 (List.map ePair b_0)]), (false, [.str term_1])] [(false, [(false, .str r.1)]), (false, [(false, .bool r.2)])] := by
  refine fnk Tryz.func70 (by kernel_rfl) rfl (by kernel_rfl) (by kernel_rfl) ?_
  unfold i_ValueOf at h
  have ks0 : strOk ⟨#[]⟩ = true := by decide
  simp only [fnS, f70, argSt, go_sem, qa, qb, qc, qd, qe, qf, qg, qh, qi, qj, qk, reduceCtorEq, reduceIte, ks0]
  obtain ⟨v1, e1, h⟩ := bind_K h
  refine call_K (by first | exact i_IsAtom_ok e1 | simpa only [go_sem, qa, qb, qc, qd, qe, qf, qg, qh, qi, qj, qk, reduceCtorEq, reduceIte, ks0] using i_IsAtom_ok e1) ?_
  try simp only [go_sem, qa, qb, qc, qd, qe, qf, qg, qh, qi, qj, qk, reduceCtorEq, reduceIte, ks0]
  refine ite_K h (fun c2 h => ?_) (fun c2 h => ?_)
  · obtain rfl := Option.some.inj h
    try simp only [go_sem, qa, qb, qc, qd, qe, qf, qg, qh, qi, qj, qk, reduceCtorEq, reduceIte, ks0, c2]
  · try simp only [go_sem, qa, qb, qc, qd, qe, qf, qg, qh, qi, qj, qk, reduceCtorEq, reduceIte, ks0, c2]
    obtain ⟨v2, e3, h⟩ := bind_K h
    refine call_K (by first | exact i_IsVar_ok e3 | simpa only [go_sem, qa, qb, qc, qd, qe, qf, qg, qh, qi, qj, qk, reduceCtorEq, reduceIte, ks0, c2] using i_IsVar_ok e3) ?_
    try simp only [go_sem, qa, qb, qc, qd, qe, qf, qg, qh, qi, qj, qk, reduceCtorEq, reduceIte, ks0, c2]
    refine ite_K h (fun c4 h => ?_) (fun c4 h => ?_)
    · try simp only [go_sem, qa, qb, qc, qd, qe, qf, qg, qh, qi, qj, qk, reduceCtorEq, reduceIte, ks0, c2, c4]
      refine swp_for h (fun i _ st => IV [(1, .p false [.c (.str term_1)]), (14, .p false [.c (.sl 119 2 (List.map ePair b_0))]), (15, .p false [.c (.int .i64 ((b_0.length : Nat) : Int))]), (16, .p false [.c (.int .i64 ((i : Nat) : Int))])] [] st) [] [] (by decide) ?_ ?_ ?_
      · simp only [go_sem, qa, qb, qc, qd, qe, qf, qg, qh, qi, qj, qk, reduceCtorEq, reduceIte, IV, sts_cons, sts_nil, obs_cons, obs_nil, ks0, c2, c4]
      · rintro i6 x7 ⟨⟩ ⟨sl, ob, n⟩ y5 hx6 hI7 hW8 h hy5
        simp only [IV, sts_cons, sts_nil, obs_cons, obs_nil, and_true, true_and, Nat.reduceAdd, str_len] at hI7
        obtain ⟨⟨g9_1, g9_14, g9_15, g9_16⟩, hn⟩ := hI7
        subst hn
        have hlhx6 := WF.slotL hW8 g9_14 (j := 0) rfl
        try simp only [go_sem, qa, qb, qc, qd, qe, qf, qg, qh, qi, qj, qk, reduceCtorEq, reduceIte, ks0, c2, c4, hx6, lt_t hx6, lt_p hx6, nat_in (lt_n hx6) hlhx6, g9_1, g9_14, g9_15, g9_16]
        refine ite_K h (fun c10 h => ?_) (fun c10 h => ?_)
        · replace h := inr_K h hy5
          obtain rfl := Option.some.inj h
          try simp only [go_sem, qa, qb, qc, qd, qe, qf, qg, qh, qi, qj, qk, reduceCtorEq, reduceIte, ks0, c2, c4, hx6, lt_t hx6, lt_p hx6, nat_in (lt_n hx6) hlhx6, c10, g9_1, g9_14, g9_15, g9_16]
        · try simp only [go_sem, qa, qb, qc, qd, qe, qf, qg, qh, qi, qj, qk, reduceCtorEq, reduceIte, ks0, c2, c4, hx6, lt_t hx6, lt_p hx6, nat_in (lt_n hx6) hlhx6, c10, g9_1, g9_14, g9_15, g9_16]
          refine ⟨_, [], [], (Option.some.inj h).symm, by decide, ?_⟩
          try simp only [go_sem, qa, qb, qc, qd, qe, qf, qg, qh, qi, qj, qk, reduceCtorEq, reduceIte, ks0, c2, c4, hx6, lt_t hx6, lt_p hx6, nat_in (lt_n hx6) hlhx6, c10, g9_1, g9_14, g9_15, g9_16, IV, sts_cons, sts_nil, obs_cons, obs_nil]
      · rintro ⟨⟩ ⟨sl, ob, n⟩ hI11 hW12 h
        simp only [IV, sts_cons, sts_nil, obs_cons, obs_nil, and_true, true_and, Nat.reduceAdd, str_len] at hI11
        obtain ⟨⟨g13_1, g13_14, g13_15, g13_16⟩, hn⟩ := hI11
        subst hn
        obtain rfl := Option.some.inj h
        try simp only [go_sem, qa, qb, qc, qd, qe, qf, qg, qh, qi, qj, qk, reduceCtorEq, reduceIte, ks0, c2, c4, lt_f (b_0.length), g13_1, g13_14, g13_15, g13_16]
    · obtain rfl := Option.some.inj h
      try simp only [go_sem, qa, qb, qc, qd, qe, qf, qg, qh, qi, qj, qk, reduceCtorEq, reduceIte, ks0, c2, c4]
theorem i_FindFact_ok {l_0 : (List FactD)} {f_1 : FactD} {r : Int} (h : i_FindFact l_0 f_1 = some r) : Sound Tryz.prog J0 32 [(false, [.sl 57 2 (List.map eFact l_0)]), (true, eFact f_1)] [(false, [(false, .int .i64 r)])] := by
  refine fnk Tryz.func32 (by kernel_rfl) rfl (by kernel_rfl) (by kernel_rfl) ?_
  unfold i_FindFact at h
  simp only [fnS, f32, argSt, go_sem, qa, qb, qc, qd, qe, qf, qg, qh, qi, qj, qk, reduceCtorEq, reduceIte]
  refine swp_for h (fun i _ st => IV [(3, .bp 0 0), (7, .p false [.c (.sl 57 2 (List.map eFact l_0))]), (8, .p false [.c (.int .i64 ((l_0.length : Nat) : Int))]), (9, .p false [.c (.int .i64 ((i : Nat) : Int))])] [.box 57 [.c (.str f_1.rel), .c (.sl 9 1 (List.map eStr f_1.args))]] st) [] [0] (by decide) ?_ ?_ ?_
  · simp only [go_sem, qa, qb, qc, qd, qe, qf, qg, qh, qi, qj, qk, reduceCtorEq, reduceIte, IV, sts_cons, sts_nil, obs_cons, obs_nil]
  · rintro i6 x7 ⟨⟩ ⟨sl, ob, n⟩ y1 hx2 hI3 hW4 h hy1
    simp only [IV, sts_cons, sts_nil, obs_cons, obs_nil, and_true, true_and, Nat.reduceAdd, str_len] at hI3
    obtain ⟨⟨g5_3, g5_7, g5_8, g5_9⟩, og5_0, hn⟩ := hI3
    subst hn
    have hlhx2 := WF.slotL hW4 g5_7 (j := 0) rfl
    try simp only [go_sem, qa, qb, qc, qd, qe, qf, qg, qh, qi, qj, qk, reduceCtorEq, reduceIte, hx2, lt_t hx2, lt_p hx2, nat_in (lt_n hx2) hlhx2, g5_3, g5_7, g5_8, g5_9, og5_0]
    obtain ⟨v8, e6, h⟩ := bind_K h
    refine call_K (by first | exact i_sameFact_ok e6 | simpa only [go_sem, qa, qb, qc, qd, qe, qf, qg, qh, qi, qj, qk, reduceCtorEq, reduceIte, hx2, lt_t hx2, lt_p hx2, nat_in (lt_n hx2) hlhx2, g5_3, g5_7, g5_8, g5_9, og5_0] using i_sameFact_ok e6) ?_
    try simp only [go_sem, qa, qb, qc, qd, qe, qf, qg, qh, qi, qj, qk, reduceCtorEq, reduceIte, hx2, lt_t hx2, lt_p hx2, nat_in (lt_n hx2) hlhx2, g5_3, g5_7, g5_8, g5_9, og5_0]
    refine ite_K h (fun c7 h => ?_) (fun c7 h => ?_)
    · replace h := inr_K h hy1
      obtain rfl := Option.some.inj h
      try simp only [go_sem, qa, qb, qc, qd, qe, qf, qg, qh, qi, qj, qk, reduceCtorEq, reduceIte, hx2, lt_t hx2, lt_p hx2, nat_in (lt_n hx2) hlhx2, c7, g5_3, g5_7, g5_8, g5_9, og5_0]
    · try simp only [go_sem, qa, qb, qc, qd, qe, qf, qg, qh, qi, qj, qk, reduceCtorEq, reduceIte, hx2, lt_t hx2, lt_p hx2, nat_in (lt_n hx2) hlhx2, c7, g5_3, g5_7, g5_8, g5_9, og5_0]
      refine ⟨_, [], [0], (Option.some.inj h).symm, by decide, ?_⟩
      try simp only [go_sem, qa, qb, qc, qd, qe, qf, qg, qh, qi, qj, qk, reduceCtorEq, reduceIte, hx2, lt_t hx2, lt_p hx2, nat_in (lt_n hx2) hlhx2, c7, g5_3, g5_7, g5_8, g5_9, og5_0, IV, sts_cons, sts_nil, obs_cons, obs_nil]
  · rintro ⟨⟩ ⟨sl, ob, n⟩ hI8 hW9 h
    simp only [IV, sts_cons, sts_nil, obs_cons, obs_nil, and_true, true_and, Nat.reduceAdd, str_len] at hI8
    obtain ⟨⟨g10_3, g10_7, g10_8, g10_9⟩, og10_0, hn⟩ := hI8
    subst hn
    obtain rfl := Option.some.inj h
    try simp only [go_sem, qa, qb, qc, qd, qe, qf, qg, qh, qi, qj, qk, reduceCtorEq, reduceIte, lt_f (l_0.length), g10_3, g10_7, g10_8, g10_9, og10_0]
end Go.Proofs.YtlkgkkacnoaeaaaGreatDoor

namespace Go.Proofs.YtlkgkkacnoaeaaaGreatDoor
open Go.Proofs.Tryz
open Int renaming reduceLT → qa, reduceLE → qb, reduceBEq → qc, reduceBNe → qd
open Nat renaming reduceBNe → qe, reduceAdd → qf, reduceMul → qg, reduceEqDiff → qh, reduceLeDiff → qi, reduceLT → qj, reduceBEq → qk
set_option linter.unusedSimpArgs false
set_option linter.unusedVariables false
set_option maxRecDepth 1000000
set_option maxHeartbeats 4000000
theorem s_VarsOf_ok {p_0 : PatternD} {r : (List ByteArray)} (h : s_VarsOf p_0 = some r) : Sound Tryz.prog J0 102 [(true, ePattern p_0)] [(false, [(false, .sl 9 1 (List.map eStr r))])] := by
  refine fnk Tryz.func102 (by kernel_rfl) rfl (by kernel_rfl) (by kernel_rfl) ?_
  unfold s_VarsOf at h
  simp only [fnS, f102, argSt, go_sem, qa, qb, qc, qd, qe, qf, qg, qh, qi, qj, qk, reduceCtorEq, reduceIte]
  refine swp_for h (fun i row_4 st => IV [(1, .bp 0 0), (3, .p false [.row 1]), (4, .p false [.c (.int .i64 ((i : Nat) : Int))])] [.box 60 [.c (.str p_0.rel), .c (.sl 9 1 (List.map eStr p_0.args))], .row 9 1 (List.map eStr row_4) 2] st) [] [0, 32] (by decide) ?_ ?_ ?_
  · simp only [go_sem, qa, qb, qc, qd, qe, qf, qg, qh, qi, qj, qk, reduceCtorEq, reduceIte, IV, sts_cons, sts_nil, obs_cons, obs_nil]
  · rintro i9 x10 row_4 ⟨sl, ob, n⟩ y1 hx2 hI3 hW4 h hy1
    simp only [IV, sts_cons, sts_nil, obs_cons, obs_nil, and_true, true_and, Nat.reduceAdd, str_len] at hI3
    obtain ⟨⟨g5_1, g5_3, g5_4⟩, og5_0, og5_1, hn⟩ := hI3
    subst hn
    have hlhx2 := WF.boxL hW4 og5_0 (j := 1) rfl
    try simp only [go_sem, qa, qb, qc, qd, qe, qf, qg, qh, qi, qj, qk, reduceCtorEq, reduceIte, hx2, lt_t hx2, lt_p hx2, nat_in (lt_n hx2) hlhx2, g5_1, g5_3, g5_4, og5_0, og5_1]
    obtain ⟨v11, e6, h⟩ := bind_K h
    refine call_K (by first | exact s_IsVar_ok e6 | simpa only [go_sem, qa, qb, qc, qd, qe, qf, qg, qh, qi, qj, qk, reduceCtorEq, reduceIte, hx2, lt_t hx2, lt_p hx2, nat_in (lt_n hx2) hlhx2, g5_1, g5_3, g5_4, og5_0, og5_1] using s_IsVar_ok e6) ?_
    try simp only [go_sem, qa, qb, qc, qd, qe, qf, qg, qh, qi, qj, qk, reduceCtorEq, reduceIte, hx2, lt_t hx2, lt_p hx2, nat_in (lt_n hx2) hlhx2, g5_1, g5_3, g5_4, og5_0, og5_1]
    refine ite_K h (fun c7 h => ?_) (fun c7 h => ?_)
    · try simp only [go_sem, qa, qb, qc, qd, qe, qf, qg, qh, qi, qj, qk, reduceCtorEq, reduceIte, hx2, lt_t hx2, lt_p hx2, nat_in (lt_n hx2) hlhx2, c7, g5_1, g5_3, g5_4, og5_0, og5_1]
      obtain ⟨v12, e8, h⟩ := bind_K h
      refine call_K (by first | exact s_l1Put_ok e8 | simpa only [go_sem, qa, qb, qc, qd, qe, qf, qg, qh, qi, qj, qk, reduceCtorEq, reduceIte, hx2, lt_t hx2, lt_p hx2, nat_in (lt_n hx2) hlhx2, c7, g5_1, g5_3, g5_4, og5_0, og5_1] using s_l1Put_ok e8) ?_
      try simp only [go_sem, qa, qb, qc, qd, qe, qf, qg, qh, qi, qj, qk, reduceCtorEq, reduceIte, hx2, lt_t hx2, lt_p hx2, nat_in (lt_n hx2) hlhx2, c7, g5_1, g5_3, g5_4, og5_0, og5_1]
      refine ⟨_, [], [0, 274], (Option.some.inj h).symm, by decide, ?_⟩
      try simp only [go_sem, qa, qb, qc, qd, qe, qf, qg, qh, qi, qj, qk, reduceCtorEq, reduceIte, hx2, lt_t hx2, lt_p hx2, nat_in (lt_n hx2) hlhx2, c7, g5_1, g5_3, g5_4, og5_0, og5_1, IV, sts_cons, sts_nil, obs_cons, obs_nil]
    · try simp only [go_sem, qa, qb, qc, qd, qe, qf, qg, qh, qi, qj, qk, reduceCtorEq, reduceIte, hx2, lt_t hx2, lt_p hx2, nat_in (lt_n hx2) hlhx2, c7, g5_1, g5_3, g5_4, og5_0, og5_1]
      refine ⟨_, [], [0, 1], (Option.some.inj h).symm, by decide, ?_⟩
      try simp only [go_sem, qa, qb, qc, qd, qe, qf, qg, qh, qi, qj, qk, reduceCtorEq, reduceIte, hx2, lt_t hx2, lt_p hx2, nat_in (lt_n hx2) hlhx2, c7, g5_1, g5_3, g5_4, og5_0, og5_1, IV, sts_cons, sts_nil, obs_cons, obs_nil]
  · rintro row_4 ⟨sl, ob, n⟩ hI9 hW10 h
    simp only [IV, sts_cons, sts_nil, obs_cons, obs_nil, and_true, true_and, Nat.reduceAdd, str_len] at hI9
    obtain ⟨⟨g11_1, g11_3, g11_4⟩, og11_0, og11_1, hn⟩ := hI9
    subst hn
    obtain rfl := Option.some.inj h
    try simp only [go_sem, qa, qb, qc, qd, qe, qf, qg, qh, qi, qj, qk, reduceCtorEq, reduceIte, lt_f (p_0.args.length), g11_1, g11_3, g11_4, og11_0, og11_1]
theorem s_IsTerm_ok {s_0 : ByteArray} {r : Bool} (h : s_IsTerm s_0 = some r) : Sound Tryz.prog J0 89 [(false, [.str s_0])] [(false, [(false, .bool r)])] := by
  refine fnk Tryz.func89 (by kernel_rfl) rfl (by kernel_rfl) (by kernel_rfl) ?_
  unfold s_IsTerm at h
  simp only [fnS, f89, argSt, go_sem, qa, qb, qc, qd, qe, qf, qg, qh, qi, qj, qk, reduceCtorEq, reduceIte]
  obtain ⟨v1, e1, h⟩ := bind_K h
  refine call_K (by first | exact s_IsAtom_ok e1 | simpa only [go_sem, qa, qb, qc, qd, qe, qf, qg, qh, qi, qj, qk, reduceCtorEq, reduceIte] using s_IsAtom_ok e1) ?_
  try simp only [go_sem, qa, qb, qc, qd, qe, qf, qg, qh, qi, qj, qk, reduceCtorEq, reduceIte]
  refine ite_K h (fun c2 h => ?_) (fun c2 h => ?_)
  · obtain rfl := Option.some.inj h
    try simp only [go_sem, qa, qb, qc, qd, qe, qf, qg, qh, qi, qj, qk, reduceCtorEq, reduceIte, c2]
  · try simp only [go_sem, qa, qb, qc, qd, qe, qf, qg, qh, qi, qj, qk, reduceCtorEq, reduceIte, c2]
    obtain ⟨v2, e3, h⟩ := bind_K h
    refine call_K (by first | exact s_IsVar_ok e3 | simpa only [go_sem, qa, qb, qc, qd, qe, qf, qg, qh, qi, qj, qk, reduceCtorEq, reduceIte, c2] using s_IsVar_ok e3) ?_
    obtain rfl := Option.some.inj h
    try simp only [go_sem, qa, qb, qc, qd, qe, qf, qg, qh, qi, qj, qk, reduceCtorEq, reduceIte, c2]
theorem s_IsFact_ok {f_0 : FactD} {r : Bool} (h : s_IsFact f_0 = some r) : Sound Tryz.prog J0 59 [(true, eFact f_0)] [(false, [(false, .bool r)])] := by
  refine fnk Tryz.func59 (by kernel_rfl) rfl (by kernel_rfl) (by kernel_rfl) ?_
  unfold s_IsFact at h
  simp only [fnS, f59, argSt, go_sem, qa, qb, qc, qd, qe, qf, qg, qh, qi, qj, qk, reduceCtorEq, reduceIte]
  refine swp_for h (fun i _ st => IV [(1, .bp 0 0), (3, .p false [.c (.int .i64 ((i : Nat) : Int))])] [.box 57 [.c (.str f_0.rel), .c (.sl 9 1 (List.map eStr f_0.args))]] st) [] [0] (by decide) ?_ ?_ ?_
  · simp only [go_sem, qa, qb, qc, qd, qe, qf, qg, qh, qi, qj, qk, reduceCtorEq, reduceIte, IV, sts_cons, sts_nil, obs_cons, obs_nil]
  · rintro i7 x8 ⟨⟩ ⟨sl, ob, n⟩ y1 hx2 hI3 hW4 h hy1
    simp only [IV, sts_cons, sts_nil, obs_cons, obs_nil, and_true, true_and, Nat.reduceAdd, str_len] at hI3
    obtain ⟨⟨g5_1, g5_3⟩, og5_0, hn⟩ := hI3
    subst hn
    have hlhx2 := WF.boxL hW4 og5_0 (j := 1) rfl
    try simp only [go_sem, qa, qb, qc, qd, qe, qf, qg, qh, qi, qj, qk, reduceCtorEq, reduceIte, hx2, lt_t hx2, lt_p hx2, nat_in (lt_n hx2) hlhx2, g5_1, g5_3, og5_0]
    obtain ⟨v9, e6, h⟩ := bind_K h
    refine call_K (by first | exact s_IsAtom_ok e6 | simpa only [go_sem, qa, qb, qc, qd, qe, qf, qg, qh, qi, qj, qk, reduceCtorEq, reduceIte, hx2, lt_t hx2, lt_p hx2, nat_in (lt_n hx2) hlhx2, g5_1, g5_3, og5_0] using s_IsAtom_ok e6) ?_
    try simp only [go_sem, qa, qb, qc, qd, qe, qf, qg, qh, qi, qj, qk, reduceCtorEq, reduceIte, hx2, lt_t hx2, lt_p hx2, nat_in (lt_n hx2) hlhx2, g5_1, g5_3, og5_0]
    refine ite_K h (fun c7 h => ?_) (fun c7 h => ?_)
    · try simp only [go_sem, qa, qb, qc, qd, qe, qf, qg, qh, qi, qj, qk, reduceCtorEq, reduceIte, hx2, lt_t hx2, lt_p hx2, nat_in (lt_n hx2) hlhx2, c7, g5_1, g5_3, og5_0]
      refine ⟨_, [], [0], (Option.some.inj h).symm, by decide, ?_⟩
      try simp only [go_sem, qa, qb, qc, qd, qe, qf, qg, qh, qi, qj, qk, reduceCtorEq, reduceIte, hx2, lt_t hx2, lt_p hx2, nat_in (lt_n hx2) hlhx2, c7, g5_1, g5_3, og5_0, IV, sts_cons, sts_nil, obs_cons, obs_nil]
    · replace h := inr_K h hy1
      obtain rfl := Option.some.inj h
      try simp only [go_sem, qa, qb, qc, qd, qe, qf, qg, qh, qi, qj, qk, reduceCtorEq, reduceIte, hx2, lt_t hx2, lt_p hx2, nat_in (lt_n hx2) hlhx2, c7, g5_1, g5_3, og5_0]
  · rintro ⟨⟩ ⟨sl, ob, n⟩ hI8 hW9 h
    simp only [IV, sts_cons, sts_nil, obs_cons, obs_nil, and_true, true_and, Nat.reduceAdd, str_len] at hI8
    obtain ⟨⟨g10_1, g10_3⟩, og10_0, hn⟩ := hI8
    subst hn
    try simp only [go_sem, qa, qb, qc, qd, qe, qf, qg, qh, qi, qj, qk, reduceCtorEq, reduceIte, lt_f (f_0.args.length), g10_1, g10_3, og10_0]
    obtain ⟨v10, e11, h⟩ := bind_K h
    refine call_K (by first | exact s_IsName_ok e11 | simpa only [go_sem, qa, qb, qc, qd, qe, qf, qg, qh, qi, qj, qk, reduceCtorEq, reduceIte, lt_f (f_0.args.length), g10_1, g10_3, og10_0] using s_IsName_ok e11) ?_
    try simp only [go_sem, qa, qb, qc, qd, qe, qf, qg, qh, qi, qj, qk, reduceCtorEq, reduceIte, lt_f (f_0.args.length), g10_1, g10_3, og10_0]
    refine ite_K h (fun c12 h => ?_) (fun c12 h => ?_)
    · obtain rfl := Option.some.inj h
      try simp only [go_sem, qa, qb, qc, qd, qe, qf, qg, qh, qi, qj, qk, reduceCtorEq, reduceIte, lt_f (f_0.args.length), c12, g10_1, g10_3, og10_0]
    · obtain rfl := Option.some.inj h
      try simp only [go_sem, qa, qb, qc, qd, qe, qf, qg, qh, qi, qj, qk, reduceCtorEq, reduceIte, lt_f (f_0.args.length), c12, g10_1, g10_3, og10_0]
theorem s_CompareFacts_ok {a_0 : FactD} {b_1 : FactD} {r : Int} (h : s_CompareFacts a_0 b_1 = some r) : Sound Tryz.prog J0 60 [(true, eFact a_0), (true, eFact b_1)] [(false, [(false, .int .i64 r)])] := by
  refine fnk Tryz.func60 (by kernel_rfl) rfl (by kernel_rfl) (by kernel_rfl) ?_
  unfold s_CompareFacts at h
  simp only [fnS, f60, argSt, go_sem, qa, qb, qc, qd, qe, qf, qg, qh, qi, qj, qk, reduceCtorEq, reduceIte]
  refine ite_K h (fun c1 h => ?_) (fun c1 h => ?_)
  · try simp only [go_sem, qa, qb, qc, qd, qe, qf, qg, qh, qi, qj, qk, reduceCtorEq, reduceIte, c1]
    refine swp_for h (fun i _ st => IV [(2, .bp 0 0), (3, .bp 1 0), (5, .p false [.c (.int .i64 ((i : Nat) : Int))])] [.box 57 [.c (.str a_0.rel), .c (.sl 9 1 (List.map eStr a_0.args))], .box 57 [.c (.str b_1.rel), .c (.sl 9 1 (List.map eStr b_1.args))]] st) [] [0, 16] (by decide) ?_ ?_ ?_
    · simp only [go_sem, qa, qb, qc, qd, qe, qf, qg, qh, qi, qj, qk, reduceCtorEq, reduceIte, IV, sts_cons, sts_nil, obs_cons, obs_nil, c1]
    · rintro i8 x9 ⟨⟩ ⟨sl, ob, n⟩ y2 hx3 hI4 hW5 h hy2
      simp only [IV, sts_cons, sts_nil, obs_cons, obs_nil, and_true, true_and, Nat.reduceAdd, str_len] at hI4
      obtain ⟨⟨g6_2, g6_3, g6_5⟩, og6_0, og6_1, hn⟩ := hI4
      subst hn
      have hlhx3 := WF.boxL hW5 og6_0 (j := 1) rfl
      try simp only [go_sem, qa, qb, qc, qd, qe, qf, qg, qh, qi, qj, qk, reduceCtorEq, reduceIte, c1, hx3, lt_t hx3, lt_p hx3, nat_in (lt_n hx3) hlhx3, g6_2, g6_3, g6_5, og6_0, og6_1]
      refine ite_K h (fun c7 h => ?_) (fun c7 h => ?_)
      · obtain ⟨x10, a8, a9, e10, h⟩ := at_K h
        simp only [Int.toNat_natCast] at e10
        try simp only [go_sem, qa, qb, qc, qd, qe, qf, qg, qh, qi, qj, qk, reduceCtorEq, reduceIte, c1, hx3, lt_t hx3, lt_p hx3, nat_in (lt_n hx3) hlhx3, c7, a8, a9, e10, g6_2, g6_3, g6_5, og6_0, og6_1]
        obtain ⟨v11, e11, h⟩ := bind_K h
        refine call_K (by first | exact s_CompareAtoms_ok e11 | simpa only [go_sem, qa, qb, qc, qd, qe, qf, qg, qh, qi, qj, qk, reduceCtorEq, reduceIte, c1, hx3, lt_t hx3, lt_p hx3, nat_in (lt_n hx3) hlhx3, c7, a8, a9, e10, g6_2, g6_3, g6_5, og6_0, og6_1] using s_CompareAtoms_ok e11) ?_
        try simp only [go_sem, qa, qb, qc, qd, qe, qf, qg, qh, qi, qj, qk, reduceCtorEq, reduceIte, c1, hx3, lt_t hx3, lt_p hx3, nat_in (lt_n hx3) hlhx3, c7, a8, a9, e10, g6_2, g6_3, g6_5, og6_0, og6_1]
        refine ite_K h (fun c12 h => ?_) (fun c12 h => ?_)
        · replace h := inr_K h hy2
          obtain rfl := Option.some.inj h
          try simp only [go_sem, qa, qb, qc, qd, qe, qf, qg, qh, qi, qj, qk, reduceCtorEq, reduceIte, c1, hx3, lt_t hx3, lt_p hx3, nat_in (lt_n hx3) hlhx3, c7, a8, a9, e10, c12, g6_2, g6_3, g6_5, og6_0, og6_1]
        · try simp only [go_sem, qa, qb, qc, qd, qe, qf, qg, qh, qi, qj, qk, reduceCtorEq, reduceIte, c1, hx3, lt_t hx3, lt_p hx3, nat_in (lt_n hx3) hlhx3, c7, a8, a9, e10, c12, g6_2, g6_3, g6_5, og6_0, og6_1]
          refine ⟨_, [], [0, 1], (Option.some.inj h).symm, by decide, ?_⟩
          try simp only [go_sem, qa, qb, qc, qd, qe, qf, qg, qh, qi, qj, qk, reduceCtorEq, reduceIte, c1, hx3, lt_t hx3, lt_p hx3, nat_in (lt_n hx3) hlhx3, c7, a8, a9, e10, c12, g6_2, g6_3, g6_5, og6_0, og6_1, IV, sts_cons, sts_nil, obs_cons, obs_nil]
      · try simp only [go_sem, qa, qb, qc, qd, qe, qf, qg, qh, qi, qj, qk, reduceCtorEq, reduceIte, c1, hx3, lt_t hx3, lt_p hx3, nat_in (lt_n hx3) hlhx3, c7, g6_2, g6_3, g6_5, og6_0, og6_1]
        refine ite_K h (fun c13 h => ?_) (fun c13 h => ?_)
        · replace h := inr_K h hy2
          obtain rfl := Option.some.inj h
          try simp only [go_sem, qa, qb, qc, qd, qe, qf, qg, qh, qi, qj, qk, reduceCtorEq, reduceIte, c1, hx3, lt_t hx3, lt_p hx3, nat_in (lt_n hx3) hlhx3, c7, c13, g6_2, g6_3, g6_5, og6_0, og6_1]
        · try simp only [go_sem, qa, qb, qc, qd, qe, qf, qg, qh, qi, qj, qk, reduceCtorEq, reduceIte, c1, hx3, lt_t hx3, lt_p hx3, nat_in (lt_n hx3) hlhx3, c7, c13, g6_2, g6_3, g6_5, og6_0, og6_1]
          refine ite_K h (fun c14 h => ?_) (fun c14 h => ?_)
          · replace h := inr_K h hy2
            obtain rfl := Option.some.inj h
            try simp only [go_sem, qa, qb, qc, qd, qe, qf, qg, qh, qi, qj, qk, reduceCtorEq, reduceIte, c1, hx3, lt_t hx3, lt_p hx3, nat_in (lt_n hx3) hlhx3, c7, c13, c14, g6_2, g6_3, g6_5, og6_0, og6_1]
          · replace h := inr_K h hy2
            obtain rfl := Option.some.inj h
            try simp only [go_sem, qa, qb, qc, qd, qe, qf, qg, qh, qi, qj, qk, reduceCtorEq, reduceIte, c1, hx3, lt_t hx3, lt_p hx3, nat_in (lt_n hx3) hlhx3, c7, c13, c14, g6_2, g6_3, g6_5, og6_0, og6_1]
    · rintro ⟨⟩ ⟨sl, ob, n⟩ hI15 hW16 h
      simp only [IV, sts_cons, sts_nil, obs_cons, obs_nil, and_true, true_and, Nat.reduceAdd, str_len] at hI15
      obtain ⟨⟨g17_2, g17_3, g17_5⟩, og17_0, og17_1, hn⟩ := hI15
      subst hn
      try simp only [go_sem, qa, qb, qc, qd, qe, qf, qg, qh, qi, qj, qk, reduceCtorEq, reduceIte, c1, lt_f (a_0.args.length), g17_2, g17_3, g17_5, og17_0, og17_1]
      refine ite_K h (fun c18 h => ?_) (fun c18 h => ?_)
      · obtain rfl := Option.some.inj h
        try simp only [go_sem, qa, qb, qc, qd, qe, qf, qg, qh, qi, qj, qk, reduceCtorEq, reduceIte, c1, lt_f (a_0.args.length), c18, g17_2, g17_3, g17_5, og17_0, og17_1]
      · try simp only [go_sem, qa, qb, qc, qd, qe, qf, qg, qh, qi, qj, qk, reduceCtorEq, reduceIte, c1, lt_f (a_0.args.length), c18, g17_2, g17_3, g17_5, og17_0, og17_1]
        refine ite_K h (fun c19 h => ?_) (fun c19 h => ?_)
        · obtain rfl := Option.some.inj h
          try simp only [go_sem, qa, qb, qc, qd, qe, qf, qg, qh, qi, qj, qk, reduceCtorEq, reduceIte, c1, lt_f (a_0.args.length), c18, c19, g17_2, g17_3, g17_5, og17_0, og17_1]
        · obtain rfl := Option.some.inj h
          try simp only [go_sem, qa, qb, qc, qd, qe, qf, qg, qh, qi, qj, qk, reduceCtorEq, reduceIte, c1, lt_f (a_0.args.length), c18, c19, g17_2, g17_3, g17_5, og17_0, og17_1]
  · try simp only [go_sem, qa, qb, qc, qd, qe, qf, qg, qh, qi, qj, qk, reduceCtorEq, reduceIte, c1]
    obtain ⟨v12, e20, h⟩ := bind_K h
    refine call_K (by first | exact s_l1Cmp_ok e20 | simpa only [go_sem, qa, qb, qc, qd, qe, qf, qg, qh, qi, qj, qk, reduceCtorEq, reduceIte, c1] using s_l1Cmp_ok e20) ?_
    obtain rfl := Option.some.inj h
    try simp only [go_sem, qa, qb, qc, qd, qe, qf, qg, qh, qi, qj, qk, reduceCtorEq, reduceIte, c1]
theorem s_IsBinding_ok {b_0 : (List PairD)} {r : Bool} (h : s_IsBinding b_0 = some r) : Sound Tryz.prog J0 55 [(false, [.sl 119 2 (List.map ePair b_0)])] [(false, [(false, .bool r)])] := by
  refine fnk Tryz.func55 (by kernel_rfl) rfl (by kernel_rfl) (by kernel_rfl) ?_
  unfold s_IsBinding at h
  simp only [fnS, f55, argSt, go_sem, qa, qb, qc, qd, qe, qf, qg, qh, qi, qj, qk, reduceCtorEq, reduceIte]
  refine swp_for h (fun i _ st => IV [(0, .p false [.c (.sl 119 2 (List.map ePair b_0))]), (3, .p false [.c (.int .i64 ((i : Nat) : Int))])] [] st) [] [] (by decide) ?_ ?_ ?_
  · simp only [go_sem, qa, qb, qc, qd, qe, qf, qg, qh, qi, qj, qk, reduceCtorEq, reduceIte, IV, sts_cons, sts_nil, obs_cons, obs_nil]
  · rintro i9 x10 ⟨⟩ ⟨sl, ob, n⟩ y1 hx2 hI3 hW4 h hy1
    simp only [IV, sts_cons, sts_nil, obs_cons, obs_nil, and_true, true_and, Nat.reduceAdd, str_len] at hI3
    obtain ⟨⟨g5_0, g5_3⟩, hn⟩ := hI3
    subst hn
    have hlhx2 := WF.slotL hW4 g5_0 (j := 0) rfl
    try simp only [go_sem, qa, qb, qc, qd, qe, qf, qg, qh, qi, qj, qk, reduceCtorEq, reduceIte, hx2, lt_t hx2, lt_p hx2, nat_in (lt_n hx2) hlhx2, g5_0, g5_3]
    obtain ⟨v11, e6, h⟩ := bind_K h
    refine call_K (by first | exact s_IsVar_ok e6 | simpa only [go_sem, qa, qb, qc, qd, qe, qf, qg, qh, qi, qj, qk, reduceCtorEq, reduceIte, hx2, lt_t hx2, lt_p hx2, nat_in (lt_n hx2) hlhx2, g5_0, g5_3] using s_IsVar_ok e6) ?_
    try simp only [go_sem, qa, qb, qc, qd, qe, qf, qg, qh, qi, qj, qk, reduceCtorEq, reduceIte, hx2, lt_t hx2, lt_p hx2, nat_in (lt_n hx2) hlhx2, g5_0, g5_3]
    refine ite_K h (fun c7 h => ?_) (fun c7 h => ?_)
    · try simp only [go_sem, qa, qb, qc, qd, qe, qf, qg, qh, qi, qj, qk, reduceCtorEq, reduceIte, hx2, lt_t hx2, lt_p hx2, nat_in (lt_n hx2) hlhx2, c7, g5_0, g5_3]
      obtain ⟨v12, e8, h⟩ := bind_K h
      refine call_K (by first | exact s_IsAtom_ok e8 | simpa only [go_sem, qa, qb, qc, qd, qe, qf, qg, qh, qi, qj, qk, reduceCtorEq, reduceIte, hx2, lt_t hx2, lt_p hx2, nat_in (lt_n hx2) hlhx2, c7, g5_0, g5_3] using s_IsAtom_ok e8) ?_
      try simp only [go_sem, qa, qb, qc, qd, qe, qf, qg, qh, qi, qj, qk, reduceCtorEq, reduceIte, hx2, lt_t hx2, lt_p hx2, nat_in (lt_n hx2) hlhx2, c7, g5_0, g5_3]
      refine ite_K h (fun c9 h => ?_) (fun c9 h => ?_)
      · try simp only [go_sem, qa, qb, qc, qd, qe, qf, qg, qh, qi, qj, qk, reduceCtorEq, reduceIte, hx2, lt_t hx2, lt_p hx2, nat_in (lt_n hx2) hlhx2, c7, c9, g5_0, g5_3]
        refine ite_K h (fun c10 h => ?_) (fun c10 h => ?_)
        · obtain ⟨x13, a11, a12, e13, h⟩ := at_K h
          try simp only [go_sem, qa, qb, qc, qd, qe, qf, qg, qh, qi, qj, qk, reduceCtorEq, reduceIte, hx2, lt_t hx2, lt_p hx2, nat_in (lt_n hx2) hlhx2, c7, c9, c10, a11, a12, e13, g5_0, g5_3]
          refine ite_K h (fun c14 h => ?_) (fun c14 h => ?_)
          · try simp only [go_sem, qa, qb, qc, qd, qe, qf, qg, qh, qi, qj, qk, reduceCtorEq, reduceIte, hx2, lt_t hx2, lt_p hx2, nat_in (lt_n hx2) hlhx2, c7, c9, c10, a11, a12, e13, c14, g5_0, g5_3]
            refine ⟨_, [], [], (Option.some.inj h).symm, by decide, ?_⟩
            try simp only [go_sem, qa, qb, qc, qd, qe, qf, qg, qh, qi, qj, qk, reduceCtorEq, reduceIte, hx2, lt_t hx2, lt_p hx2, nat_in (lt_n hx2) hlhx2, c7, c9, c10, a11, a12, e13, c14, g5_0, g5_3, IV, sts_cons, sts_nil, obs_cons, obs_nil]
          · replace h := inr_K h hy1
            obtain rfl := Option.some.inj h
            try simp only [go_sem, qa, qb, qc, qd, qe, qf, qg, qh, qi, qj, qk, reduceCtorEq, reduceIte, hx2, lt_t hx2, lt_p hx2, nat_in (lt_n hx2) hlhx2, c7, c9, c10, a11, a12, e13, c14, g5_0, g5_3]
        · try simp only [go_sem, qa, qb, qc, qd, qe, qf, qg, qh, qi, qj, qk, reduceCtorEq, reduceIte, hx2, lt_t hx2, lt_p hx2, nat_in (lt_n hx2) hlhx2, c7, c9, c10, g5_0, g5_3]
          refine ⟨_, [], [], (Option.some.inj h).symm, by decide, ?_⟩
          try simp only [go_sem, qa, qb, qc, qd, qe, qf, qg, qh, qi, qj, qk, reduceCtorEq, reduceIte, hx2, lt_t hx2, lt_p hx2, nat_in (lt_n hx2) hlhx2, c7, c9, c10, g5_0, g5_3, IV, sts_cons, sts_nil, obs_cons, obs_nil]
      · replace h := inr_K h hy1
        obtain rfl := Option.some.inj h
        try simp only [go_sem, qa, qb, qc, qd, qe, qf, qg, qh, qi, qj, qk, reduceCtorEq, reduceIte, hx2, lt_t hx2, lt_p hx2, nat_in (lt_n hx2) hlhx2, c7, c9, g5_0, g5_3]
    · replace h := inr_K h hy1
      obtain rfl := Option.some.inj h
      try simp only [go_sem, qa, qb, qc, qd, qe, qf, qg, qh, qi, qj, qk, reduceCtorEq, reduceIte, hx2, lt_t hx2, lt_p hx2, nat_in (lt_n hx2) hlhx2, c7, g5_0, g5_3]
  · rintro ⟨⟩ ⟨sl, ob, n⟩ hI15 hW16 h
    simp only [IV, sts_cons, sts_nil, obs_cons, obs_nil, and_true, true_and, Nat.reduceAdd, str_len] at hI15
    obtain ⟨⟨g17_0, g17_3⟩, hn⟩ := hI15
    subst hn
    obtain rfl := Option.some.inj h
    try simp only [go_sem, qa, qb, qc, qd, qe, qf, qg, qh, qi, qj, qk, reduceCtorEq, reduceIte, lt_f (b_0.length), g17_0, g17_3]
theorem s_ValueOf_ok {b_0 : (List PairD)} {term_1 : ByteArray} {r : (ByteArray × Bool)} (h : s_ValueOf b_0 term_1 = some r) : Sound Tryz.prog J0 56 [(false, [.sl 119 2 (List.map ePair b_0)]), (false, [.str term_1])] [(false, [(false, .str r.1)]), (false, [(false, .bool r.2)])] := by
  refine fnk Tryz.func56 (by kernel_rfl) rfl (by kernel_rfl) (by kernel_rfl) ?_
  unfold s_ValueOf at h
  have ks0 : strOk ⟨#[]⟩ = true := by decide
  simp only [fnS, f56, argSt, go_sem, qa, qb, qc, qd, qe, qf, qg, qh, qi, qj, qk, reduceCtorEq, reduceIte, ks0]
  obtain ⟨v1, e1, h⟩ := bind_K h
  refine call_K (by first | exact s_IsAtom_ok e1 | simpa only [go_sem, qa, qb, qc, qd, qe, qf, qg, qh, qi, qj, qk, reduceCtorEq, reduceIte, ks0] using s_IsAtom_ok e1) ?_
  try simp only [go_sem, qa, qb, qc, qd, qe, qf, qg, qh, qi, qj, qk, reduceCtorEq, reduceIte, ks0]
  refine ite_K h (fun c2 h => ?_) (fun c2 h => ?_)
  · obtain rfl := Option.some.inj h
    try simp only [go_sem, qa, qb, qc, qd, qe, qf, qg, qh, qi, qj, qk, reduceCtorEq, reduceIte, ks0, c2]
  · try simp only [go_sem, qa, qb, qc, qd, qe, qf, qg, qh, qi, qj, qk, reduceCtorEq, reduceIte, ks0, c2]
    refine swp_for h (fun i _ st => IV [(0, .p false [.c (.sl 119 2 (List.map ePair b_0))]), (1, .p false [.c (.str term_1)]), (6, .p false [.c (.int .i64 ((i : Nat) : Int))])] [] st) [] [] (by decide) ?_ ?_ ?_
    · simp only [go_sem, qa, qb, qc, qd, qe, qf, qg, qh, qi, qj, qk, reduceCtorEq, reduceIte, IV, sts_cons, sts_nil, obs_cons, obs_nil, ks0, c2]
    · rintro i7 x8 ⟨⟩ ⟨sl, ob, n⟩ y3 hx4 hI5 hW6 h hy3
      simp only [IV, sts_cons, sts_nil, obs_cons, obs_nil, and_true, true_and, Nat.reduceAdd, str_len] at hI5
      obtain ⟨⟨g7_0, g7_1, g7_6⟩, hn⟩ := hI5
      subst hn
      have hlhx4 := WF.slotL hW6 g7_0 (j := 0) rfl
      try simp only [go_sem, qa, qb, qc, qd, qe, qf, qg, qh, qi, qj, qk, reduceCtorEq, reduceIte, ks0, c2, hx4, lt_t hx4, lt_p hx4, nat_in (lt_n hx4) hlhx4, g7_0, g7_1, g7_6]
      refine ite_K h (fun c8 h => ?_) (fun c8 h => ?_)
      · try simp only [go_sem, qa, qb, qc, qd, qe, qf, qg, qh, qi, qj, qk, reduceCtorEq, reduceIte, ks0, c2, hx4, lt_t hx4, lt_p hx4, nat_in (lt_n hx4) hlhx4, c8, g7_0, g7_1, g7_6]
        obtain ⟨v9, e9, h⟩ := bind_K h
        refine call_K (by first | exact s_IsVar_ok e9 | simpa only [go_sem, qa, qb, qc, qd, qe, qf, qg, qh, qi, qj, qk, reduceCtorEq, reduceIte, ks0, c2, hx4, lt_t hx4, lt_p hx4, nat_in (lt_n hx4) hlhx4, c8, g7_0, g7_1, g7_6] using s_IsVar_ok e9) ?_
        try simp only [go_sem, qa, qb, qc, qd, qe, qf, qg, qh, qi, qj, qk, reduceCtorEq, reduceIte, ks0, c2, hx4, lt_t hx4, lt_p hx4, nat_in (lt_n hx4) hlhx4, c8, g7_0, g7_1, g7_6]
        refine ite_K h (fun c10 h => ?_) (fun c10 h => ?_)
        · replace h := inr_K h hy3
          obtain rfl := Option.some.inj h
          try simp only [go_sem, qa, qb, qc, qd, qe, qf, qg, qh, qi, qj, qk, reduceCtorEq, reduceIte, ks0, c2, hx4, lt_t hx4, lt_p hx4, nat_in (lt_n hx4) hlhx4, c8, c10, g7_0, g7_1, g7_6]
        · try simp only [go_sem, qa, qb, qc, qd, qe, qf, qg, qh, qi, qj, qk, reduceCtorEq, reduceIte, ks0, c2, hx4, lt_t hx4, lt_p hx4, nat_in (lt_n hx4) hlhx4, c8, c10, g7_0, g7_1, g7_6]
          refine ⟨_, [], [], (Option.some.inj h).symm, by decide, ?_⟩
          try simp only [go_sem, qa, qb, qc, qd, qe, qf, qg, qh, qi, qj, qk, reduceCtorEq, reduceIte, ks0, c2, hx4, lt_t hx4, lt_p hx4, nat_in (lt_n hx4) hlhx4, c8, c10, g7_0, g7_1, g7_6, IV, sts_cons, sts_nil, obs_cons, obs_nil]
      · try simp only [go_sem, qa, qb, qc, qd, qe, qf, qg, qh, qi, qj, qk, reduceCtorEq, reduceIte, ks0, c2, hx4, lt_t hx4, lt_p hx4, nat_in (lt_n hx4) hlhx4, c8, g7_0, g7_1, g7_6]
        refine ⟨_, [], [], (Option.some.inj h).symm, by decide, ?_⟩
        try simp only [go_sem, qa, qb, qc, qd, qe, qf, qg, qh, qi, qj, qk, reduceCtorEq, reduceIte, ks0, c2, hx4, lt_t hx4, lt_p hx4, nat_in (lt_n hx4) hlhx4, c8, g7_0, g7_1, g7_6, IV, sts_cons, sts_nil, obs_cons, obs_nil]
    · rintro ⟨⟩ ⟨sl, ob, n⟩ hI11 hW12 h
      simp only [IV, sts_cons, sts_nil, obs_cons, obs_nil, and_true, true_and, Nat.reduceAdd, str_len] at hI11
      obtain ⟨⟨g13_0, g13_1, g13_6⟩, hn⟩ := hI11
      subst hn
      obtain rfl := Option.some.inj h
      try simp only [go_sem, qa, qb, qc, qd, qe, qf, qg, qh, qi, qj, qk, reduceCtorEq, reduceIte, ks0, c2, lt_f (b_0.length), g13_0, g13_1, g13_6]
theorem s_l6Copy_ok {t_0 : TokenD} {r : TokenD} (h : s_l6Copy t_0 = some r) : Sound Tryz.prog J0 131 [(true, eToken t_0)] [(true, [(false, .sl 57 2 (List.map eFact r.facts)), (false, .sl 119 2 (List.map ePair r.binding))])] := by
  refine fnk Tryz.func131 (by kernel_rfl) rfl (by kernel_rfl) (by kernel_rfl) ?_
  unfold s_l6Copy at h
  simp only [fnS, f131, argSt, go_sem, qa, qb, qc, qd, qe, qf, qg, qh, qi, qj, qk, reduceCtorEq, reduceIte]
  obtain ⟨v1, e1, h⟩ := bind_K h
  refine call_K (by first | exact s_l2Copies_ok e1 | simpa only [go_sem, qa, qb, qc, qd, qe, qf, qg, qh, qi, qj, qk, reduceCtorEq, reduceIte] using s_l2Copies_ok e1) ?_
  try simp only [go_sem, qa, qb, qc, qd, qe, qf, qg, qh, qi, qj, qk, reduceCtorEq, reduceIte]
  obtain ⟨v2, e2, h⟩ := bind_K h
  refine call_K (by first | exact s_l3Copy_ok e2 | simpa only [go_sem, qa, qb, qc, qd, qe, qf, qg, qh, qi, qj, qk, reduceCtorEq, reduceIte] using s_l3Copy_ok e2) ?_
  obtain rfl := Option.some.inj h
  try simp only [go_sem, qa, qb, qc, qd, qe, qf, qg, qh, qi, qj, qk, reduceCtorEq, reduceIte]
theorem i_IsPattern_ok {p_0 : PatternD} {r : Bool} (h : i_IsPattern p_0 = some r) : Sound Tryz.prog J0 68 [(true, ePattern p_0)] [(false, [(false, .bool r)])] := by
  refine fnk Tryz.func68 (by kernel_rfl) rfl (by kernel_rfl) (by kernel_rfl) ?_
  unfold i_IsPattern at h
  simp only [fnS, f68, argSt, go_sem, qa, qb, qc, qd, qe, qf, qg, qh, qi, qj, qk, reduceCtorEq, reduceIte]
  obtain ⟨v1, e1, h⟩ := bind_K h
  refine call_K (by first | exact i_IsName_ok e1 | simpa only [go_sem, qa, qb, qc, qd, qe, qf, qg, qh, qi, qj, qk, reduceCtorEq, reduceIte] using i_IsName_ok e1) ?_
  try simp only [go_sem, qa, qb, qc, qd, qe, qf, qg, qh, qi, qj, qk, reduceCtorEq, reduceIte]
  refine ite_K h (fun c2 h => ?_) (fun c2 h => ?_)
  · try simp only [go_sem, qa, qb, qc, qd, qe, qf, qg, qh, qi, qj, qk, reduceCtorEq, reduceIte, c2]
    refine ite_K h (fun c3 h => ?_) (fun c3 h => ?_)
    · obtain rfl := Option.some.inj h
      try simp only [go_sem, qa, qb, qc, qd, qe, qf, qg, qh, qi, qj, qk, reduceCtorEq, reduceIte, c2, c3]
    · try simp only [go_sem, qa, qb, qc, qd, qe, qf, qg, qh, qi, qj, qk, reduceCtorEq, reduceIte, c2, c3]
      refine swp_for h (fun i _ st => IV [(16, .p false [.c (.sl 9 1 (List.map eStr p_0.args))]), (17, .p false [.c (.int .i64 ((p_0.args.length : Nat) : Int))]), (18, .p false [.c (.int .i64 ((i : Nat) : Int))])] [] st) [] [] (by decide) ?_ ?_ ?_
      · simp only [go_sem, qa, qb, qc, qd, qe, qf, qg, qh, qi, qj, qk, reduceCtorEq, reduceIte, IV, sts_cons, sts_nil, obs_cons, obs_nil, c2, c3]
      · rintro i7 x8 ⟨⟩ ⟨sl, ob, n⟩ y4 hx5 hI6 hW7 h hy4
        simp only [IV, sts_cons, sts_nil, obs_cons, obs_nil, and_true, true_and, Nat.reduceAdd, str_len] at hI6
        obtain ⟨⟨g8_16, g8_17, g8_18⟩, hn⟩ := hI6
        subst hn
        have hlhx5 := WF.slotL hW7 g8_16 (j := 0) rfl
        try simp only [go_sem, qa, qb, qc, qd, qe, qf, qg, qh, qi, qj, qk, reduceCtorEq, reduceIte, c2, c3, hx5, lt_t hx5, lt_p hx5, nat_in (lt_n hx5) hlhx5, g8_16, g8_17, g8_18]
        obtain ⟨v9, e9, h⟩ := bind_K h
        refine call_K (by first | exact i_IsTerm_ok e9 | simpa only [go_sem, qa, qb, qc, qd, qe, qf, qg, qh, qi, qj, qk, reduceCtorEq, reduceIte, c2, c3, hx5, lt_t hx5, lt_p hx5, nat_in (lt_n hx5) hlhx5, g8_16, g8_17, g8_18] using i_IsTerm_ok e9) ?_
        try simp only [go_sem, qa, qb, qc, qd, qe, qf, qg, qh, qi, qj, qk, reduceCtorEq, reduceIte, c2, c3, hx5, lt_t hx5, lt_p hx5, nat_in (lt_n hx5) hlhx5, g8_16, g8_17, g8_18]
        refine ite_K h (fun c10 h => ?_) (fun c10 h => ?_)
        · try simp only [go_sem, qa, qb, qc, qd, qe, qf, qg, qh, qi, qj, qk, reduceCtorEq, reduceIte, c2, c3, hx5, lt_t hx5, lt_p hx5, nat_in (lt_n hx5) hlhx5, c10, g8_16, g8_17, g8_18]
          refine ⟨_, [], [], (Option.some.inj h).symm, by decide, ?_⟩
          try simp only [go_sem, qa, qb, qc, qd, qe, qf, qg, qh, qi, qj, qk, reduceCtorEq, reduceIte, c2, c3, hx5, lt_t hx5, lt_p hx5, nat_in (lt_n hx5) hlhx5, c10, g8_16, g8_17, g8_18, IV, sts_cons, sts_nil, obs_cons, obs_nil]
        · replace h := inr_K h hy4
          obtain rfl := Option.some.inj h
          try simp only [go_sem, qa, qb, qc, qd, qe, qf, qg, qh, qi, qj, qk, reduceCtorEq, reduceIte, c2, c3, hx5, lt_t hx5, lt_p hx5, nat_in (lt_n hx5) hlhx5, c10, g8_16, g8_17, g8_18]
      · rintro ⟨⟩ ⟨sl, ob, n⟩ hI11 hW12 h
        simp only [IV, sts_cons, sts_nil, obs_cons, obs_nil, and_true, true_and, Nat.reduceAdd, str_len] at hI11
        obtain ⟨⟨g13_16, g13_17, g13_18⟩, hn⟩ := hI11
        subst hn
        obtain rfl := Option.some.inj h
        try simp only [go_sem, qa, qb, qc, qd, qe, qf, qg, qh, qi, qj, qk, reduceCtorEq, reduceIte, c2, c3, lt_f (p_0.args.length), g13_16, g13_17, g13_18]
  · obtain rfl := Option.some.inj h
    try simp only [go_sem, qa, qb, qc, qd, qe, qf, qg, qh, qi, qj, qk, reduceCtorEq, reduceIte, c2]
theorem i_BoundVars_ok {r_0 : RuleD} {n_1 : Int} {r : (List ByteArray)} (h : i_BoundVars r_0 n_1 = some r) : Sound Tryz.prog J0 111 [(true, eRule r_0), (false, [.int .i64 n_1])] [(false, [(false, .sl 9 1 (List.map eStr r))])] := by
  refine fnk Tryz.func111 (by kernel_rfl) rfl (by kernel_rfl) (by kernel_rfl) ?_
  unfold i_BoundVars at h
  simp only [fnS, f111, argSt, go_sem, qa, qb, qc, qd, qe, qf, qg, qh, qi, qj, qk, reduceCtorEq, reduceIte]
  refine swp_for h (fun i row_5 st => IV [(1, .p false [.c (.int .i64 n_1)]), (5, .p false [.row 0]), (9, .p false [.c (.sl 99 5 (List.map eCond r_0.cond))]), (10, .p false [.c (.int .i64 ((r_0.cond.length : Nat) : Int))]), (11, .p false [.c (.int .i64 ((i : Nat) : Int))])] [.row 9 1 (List.map eStr row_5) 2] st) [(false, 5, 0)] [112] (by decide) ?_ ?_ ?_
  · simp only [go_sem, qa, qb, qc, qd, qe, qf, qg, qh, qi, qj, qk, reduceCtorEq, reduceIte, IV, sts_cons, sts_nil, obs_cons, obs_nil]
  · rintro i10 x11 row_5 ⟨sl, ob, n⟩ y1 hx2 hI3 hW4 h hy1
    simp only [IV, sts_cons, sts_nil, obs_cons, obs_nil, and_true, true_and, Nat.reduceAdd, str_len] at hI3
    obtain ⟨⟨g5_1, g5_5, g5_9, g5_10, g5_11⟩, og5_0, hn⟩ := hI3
    subst hn
    have hlhx2 := WF.slotL hW4 g5_9 (j := 0) rfl
    try simp only [go_sem, qa, qb, qc, qd, qe, qf, qg, qh, qi, qj, qk, reduceCtorEq, reduceIte, hx2, lt_t hx2, lt_p hx2, nat_in (lt_n hx2) hlhx2, g5_1, g5_5, g5_9, g5_10, g5_11, og5_0]
    refine ite_K h (fun c6 h => ?_) (fun c6 h => ?_)
    · try simp only [go_sem, qa, qb, qc, qd, qe, qf, qg, qh, qi, qj, qk, reduceCtorEq, reduceIte, hx2, lt_t hx2, lt_p hx2, nat_in (lt_n hx2) hlhx2, c6, g5_1, g5_5, g5_9, g5_10, g5_11, og5_0]
      refine ite_K h (fun c7 h => ?_) (fun c7 h => ?_)
      · try simp only [go_sem, qa, qb, qc, qd, qe, qf, qg, qh, qi, qj, qk, reduceCtorEq, reduceIte, hx2, lt_t hx2, lt_p hx2, nat_in (lt_n hx2) hlhx2, c6, c7, g5_1, g5_5, g5_9, g5_10, g5_11, og5_0]
        obtain ⟨v12, e8, h⟩ := bind_K h
        refine call_K (by first | exact i_varsAmong_ok e8 | simpa only [go_sem, qa, qb, qc, qd, qe, qf, qg, qh, qi, qj, qk, reduceCtorEq, reduceIte, hx2, lt_t hx2, lt_p hx2, nat_in (lt_n hx2) hlhx2, c6, c7, g5_1, g5_5, g5_9, g5_10, g5_11, og5_0] using i_varsAmong_ok e8) ?_
        obtain ⟨p9, h⟩ := chk_K h
        try simp only [Nat.reduceLeDiff] at p9
        try simp only [go_sem, qa, qb, qc, qd, qe, qf, qg, qh, qi, qj, qk, reduceCtorEq, reduceIte, hx2, lt_t hx2, lt_p hx2, nat_in (lt_n hx2) hlhx2, c6, c7, p9, g5_1, g5_5, g5_9, g5_10, g5_11, og5_0]
        refine ⟨_, [], [321], (Option.some.inj h).symm, by decide, ?_⟩
        try simp only [go_sem, qa, qb, qc, qd, qe, qf, qg, qh, qi, qj, qk, reduceCtorEq, reduceIte, hx2, lt_t hx2, lt_p hx2, nat_in (lt_n hx2) hlhx2, c6, c7, p9, g5_1, g5_5, g5_9, g5_10, g5_11, og5_0, IV, sts_cons, sts_nil, obs_cons, obs_nil]
      · try simp only [go_sem, qa, qb, qc, qd, qe, qf, qg, qh, qi, qj, qk, reduceCtorEq, reduceIte, hx2, lt_t hx2, lt_p hx2, nat_in (lt_n hx2) hlhx2, c6, c7, g5_1, g5_5, g5_9, g5_10, g5_11, og5_0]
        refine ⟨_, [], [0], (Option.some.inj h).symm, by decide, ?_⟩
        try simp only [go_sem, qa, qb, qc, qd, qe, qf, qg, qh, qi, qj, qk, reduceCtorEq, reduceIte, hx2, lt_t hx2, lt_p hx2, nat_in (lt_n hx2) hlhx2, c6, c7, g5_1, g5_5, g5_9, g5_10, g5_11, og5_0, IV, sts_cons, sts_nil, obs_cons, obs_nil]
    · try simp only [go_sem, qa, qb, qc, qd, qe, qf, qg, qh, qi, qj, qk, reduceCtorEq, reduceIte, hx2, lt_t hx2, lt_p hx2, nat_in (lt_n hx2) hlhx2, c6, g5_1, g5_5, g5_9, g5_10, g5_11, og5_0]
      refine ⟨_, [], [0], (Option.some.inj h).symm, by decide, ?_⟩
      try simp only [go_sem, qa, qb, qc, qd, qe, qf, qg, qh, qi, qj, qk, reduceCtorEq, reduceIte, hx2, lt_t hx2, lt_p hx2, nat_in (lt_n hx2) hlhx2, c6, g5_1, g5_5, g5_9, g5_10, g5_11, og5_0, IV, sts_cons, sts_nil, obs_cons, obs_nil]
  · rintro row_5 ⟨sl, ob, n⟩ hI10 hW11 h
    simp only [IV, sts_cons, sts_nil, obs_cons, obs_nil, and_true, true_and, Nat.reduceAdd, str_len] at hI10
    obtain ⟨⟨g12_1, g12_5, g12_9, g12_10, g12_11⟩, og12_0, hn⟩ := hI10
    subst hn
    try simp only [go_sem, qa, qb, qc, qd, qe, qf, qg, qh, qi, qj, qk, reduceCtorEq, reduceIte, lt_f (r_0.cond.length), g12_1, g12_5, g12_9, g12_10, g12_11, og12_0]
    obtain ⟨v13, e13, h⟩ := bind_K h
    refine call_K (by first | exact i_SortedTexts_ok e13 | simpa only [go_sem, qa, qb, qc, qd, qe, qf, qg, qh, qi, qj, qk, reduceCtorEq, reduceIte, lt_f (r_0.cond.length), g12_1, g12_5, g12_9, g12_10, g12_11, og12_0] using i_SortedTexts_ok e13) ?_
    obtain rfl := Option.some.inj h
    try simp only [go_sem, qa, qb, qc, qd, qe, qf, qg, qh, qi, qj, qk, reduceCtorEq, reduceIte, lt_f (r_0.cond.length), g12_1, g12_5, g12_9, g12_10, g12_11, og12_0]
theorem i_CondVars_ok {x_0 : CondD} {r : (List ByteArray)} (h : i_CondVars x_0 = some r) : Sound Tryz.prog J0 134 [(true, eCond x_0)] [(false, [(false, .sl 9 1 (List.map eStr r))])] := by
  refine fnk Tryz.func134 (by kernel_rfl) rfl (by kernel_rfl) (by kernel_rfl) ?_
  unfold i_CondVars at h
  simp only [fnS, f134, argSt, go_sem, qa, qb, qc, qd, qe, qf, qg, qh, qi, qj, qk, reduceCtorEq, reduceIte]
  obtain ⟨v1, e1, h⟩ := bind_K h
  refine call_K (by first | exact i_termsOf_ok e1 | simpa only [go_sem, qa, qb, qc, qd, qe, qf, qg, qh, qi, qj, qk, reduceCtorEq, reduceIte] using i_termsOf_ok e1) ?_
  try simp only [go_sem, qa, qb, qc, qd, qe, qf, qg, qh, qi, qj, qk, reduceCtorEq, reduceIte]
  obtain ⟨v2, e2, h⟩ := bind_K h
  refine call_K (by first | exact i_varsAmong_ok e2 | simpa only [go_sem, qa, qb, qc, qd, qe, qf, qg, qh, qi, qj, qk, reduceCtorEq, reduceIte] using i_varsAmong_ok e2) ?_
  try simp only [go_sem, qa, qb, qc, qd, qe, qf, qg, qh, qi, qj, qk, reduceCtorEq, reduceIte]
  obtain ⟨v3, e3, h⟩ := bind_K h
  refine call_K (by first | exact i_SortedTexts_ok e3 | simpa only [go_sem, qa, qb, qc, qd, qe, qf, qg, qh, qi, qj, qk, reduceCtorEq, reduceIte] using i_SortedTexts_ok e3) ?_
  obtain rfl := Option.some.inj h
  try simp only [go_sem, qa, qb, qc, qd, qe, qf, qg, qh, qi, qj, qk, reduceCtorEq, reduceIte]
end Go.Proofs.YtlkgkkacnoaeaaaGreatDoor

namespace Go.Proofs.YtlkgkkacnoaeaaaGreatDoor
open Go.Proofs.Tryz
open Int renaming reduceLT → qa, reduceLE → qb, reduceBEq → qc, reduceBNe → qd
open Nat renaming reduceBNe → qe, reduceAdd → qf, reduceMul → qg, reduceEqDiff → qh, reduceLeDiff → qi, reduceLT → qj, reduceBEq → qk
set_option linter.unusedSimpArgs false
set_option linter.unusedVariables false
set_option maxRecDepth 1000000
set_option maxHeartbeats 4000000
theorem i_CompareFacts_ok {a_0 : FactD} {b_1 : FactD} {r : Int} (h : i_CompareFacts a_0 b_1 = some r) : Sound Tryz.prog J0 67 [(true, eFact a_0), (true, eFact b_1)] [(false, [(false, .int .i64 r)])] := by
  refine fnk Tryz.func67 (by kernel_rfl) rfl (by kernel_rfl) (by kernel_rfl) ?_
  unfold i_CompareFacts at h
  simp only [fnS, f67, argSt, go_sem, qa, qb, qc, qd, qe, qf, qg, qh, qi, qj, qk, reduceCtorEq, reduceIte]
  obtain ⟨v1, e1, h⟩ := bind_K h
  refine call_K (by first | exact x_Compare_ok e1 | simpa only [go_sem, qa, qb, qc, qd, qe, qf, qg, qh, qi, qj, qk, reduceCtorEq, reduceIte] using x_Compare_ok e1) ?_
  try simp only [go_sem, qa, qb, qc, qd, qe, qf, qg, qh, qi, qj, qk, reduceCtorEq, reduceIte]
  refine ite_K h (fun c2 h => ?_) (fun c2 h => ?_)
  · obtain rfl := Option.some.inj h
    try simp only [go_sem, qa, qb, qc, qd, qe, qf, qg, qh, qi, qj, qk, reduceCtorEq, reduceIte, c2]
  · try simp only [go_sem, qa, qb, qc, qd, qe, qf, qg, qh, qi, qj, qk, reduceCtorEq, reduceIte, c2]
    refine swp_for h (fun i _ st => IV [(2, .bp 0 0), (3, .bp 1 0), (6, .p false [.c (.int .i64 ((i : Nat) : Int))])] [.box 57 [.c (.str a_0.rel), .c (.sl 9 1 (List.map eStr a_0.args))], .box 57 [.c (.str b_1.rel), .c (.sl 9 1 (List.map eStr b_1.args))]] st) [] [0, 16] (by decide) ?_ ?_ ?_
    · simp only [go_sem, qa, qb, qc, qd, qe, qf, qg, qh, qi, qj, qk, reduceCtorEq, reduceIte, IV, sts_cons, sts_nil, obs_cons, obs_nil, c2]
    · rintro i11 x12 ⟨⟩ ⟨sl, ob, n⟩ y3 hx4 hI5 hW6 h hy3
      simp only [IV, sts_cons, sts_nil, obs_cons, obs_nil, and_true, true_and, Nat.reduceAdd, str_len] at hI5
      obtain ⟨⟨g7_2, g7_3, g7_6⟩, og7_0, og7_1, hn⟩ := hI5
      subst hn
      have hlhx4 := WF.boxL hW6 og7_0 (j := 1) rfl
      try simp only [go_sem, qa, qb, qc, qd, qe, qf, qg, qh, qi, qj, qk, reduceCtorEq, reduceIte, c2, hx4, lt_t hx4, lt_p hx4, nat_in (lt_n hx4) hlhx4, g7_2, g7_3, g7_6, og7_0, og7_1]
      refine ite_K h (fun c8 h => ?_) (fun c8 h => ?_)
      · obtain ⟨x13, a9, a10, e11, h⟩ := at_K h
        simp only [Int.toNat_natCast] at e11
        try simp only [go_sem, qa, qb, qc, qd, qe, qf, qg, qh, qi, qj, qk, reduceCtorEq, reduceIte, c2, hx4, lt_t hx4, lt_p hx4, nat_in (lt_n hx4) hlhx4, c8, a9, a10, e11, g7_2, g7_3, g7_6, og7_0, og7_1]
        obtain ⟨v14, e12, h⟩ := bind_K h
        refine call_K (by first | exact i_CompareAtoms_ok e12 | simpa only [go_sem, qa, qb, qc, qd, qe, qf, qg, qh, qi, qj, qk, reduceCtorEq, reduceIte, c2, hx4, lt_t hx4, lt_p hx4, nat_in (lt_n hx4) hlhx4, c8, a9, a10, e11, g7_2, g7_3, g7_6, og7_0, og7_1] using i_CompareAtoms_ok e12) ?_
        try simp only [go_sem, qa, qb, qc, qd, qe, qf, qg, qh, qi, qj, qk, reduceCtorEq, reduceIte, c2, hx4, lt_t hx4, lt_p hx4, nat_in (lt_n hx4) hlhx4, c8, a9, a10, e11, g7_2, g7_3, g7_6, og7_0, og7_1]
        refine ite_K h (fun c13 h => ?_) (fun c13 h => ?_)
        · replace h := inr_K h hy3
          obtain rfl := Option.some.inj h
          try simp only [go_sem, qa, qb, qc, qd, qe, qf, qg, qh, qi, qj, qk, reduceCtorEq, reduceIte, c2, hx4, lt_t hx4, lt_p hx4, nat_in (lt_n hx4) hlhx4, c8, a9, a10, e11, c13, g7_2, g7_3, g7_6, og7_0, og7_1]
        · try simp only [go_sem, qa, qb, qc, qd, qe, qf, qg, qh, qi, qj, qk, reduceCtorEq, reduceIte, c2, hx4, lt_t hx4, lt_p hx4, nat_in (lt_n hx4) hlhx4, c8, a9, a10, e11, c13, g7_2, g7_3, g7_6, og7_0, og7_1]
          refine ⟨_, [], [0, 1], (Option.some.inj h).symm, by decide, ?_⟩
          try simp only [go_sem, qa, qb, qc, qd, qe, qf, qg, qh, qi, qj, qk, reduceCtorEq, reduceIte, c2, hx4, lt_t hx4, lt_p hx4, nat_in (lt_n hx4) hlhx4, c8, a9, a10, e11, c13, g7_2, g7_3, g7_6, og7_0, og7_1, IV, sts_cons, sts_nil, obs_cons, obs_nil]
      · try simp only [go_sem, qa, qb, qc, qd, qe, qf, qg, qh, qi, qj, qk, reduceCtorEq, reduceIte, c2, hx4, lt_t hx4, lt_p hx4, nat_in (lt_n hx4) hlhx4, c8, g7_2, g7_3, g7_6, og7_0, og7_1]
        obtain ⟨v15, e14, h⟩ := bind_K h
        refine call_K (by first | exact i_compareInts_ok e14 | simpa only [go_sem, qa, qb, qc, qd, qe, qf, qg, qh, qi, qj, qk, reduceCtorEq, reduceIte, c2, hx4, lt_t hx4, lt_p hx4, nat_in (lt_n hx4) hlhx4, c8, g7_2, g7_3, g7_6, og7_0, og7_1] using i_compareInts_ok e14) ?_
        replace h := inr_K h hy3
        obtain rfl := Option.some.inj h
        try simp only [go_sem, qa, qb, qc, qd, qe, qf, qg, qh, qi, qj, qk, reduceCtorEq, reduceIte, c2, hx4, lt_t hx4, lt_p hx4, nat_in (lt_n hx4) hlhx4, c8, g7_2, g7_3, g7_6, og7_0, og7_1]
    · rintro ⟨⟩ ⟨sl, ob, n⟩ hI15 hW16 h
      simp only [IV, sts_cons, sts_nil, obs_cons, obs_nil, and_true, true_and, Nat.reduceAdd, str_len] at hI15
      obtain ⟨⟨g17_2, g17_3, g17_6⟩, og17_0, og17_1, hn⟩ := hI15
      subst hn
      try simp only [go_sem, qa, qb, qc, qd, qe, qf, qg, qh, qi, qj, qk, reduceCtorEq, reduceIte, c2, lt_f (a_0.args.length), g17_2, g17_3, g17_6, og17_0, og17_1]
      obtain ⟨v16, e18, h⟩ := bind_K h
      refine call_K (by first | exact i_compareInts_ok e18 | simpa only [go_sem, qa, qb, qc, qd, qe, qf, qg, qh, qi, qj, qk, reduceCtorEq, reduceIte, c2, lt_f (a_0.args.length), g17_2, g17_3, g17_6, og17_0, og17_1] using i_compareInts_ok e18) ?_
      obtain rfl := Option.some.inj h
      try simp only [go_sem, qa, qb, qc, qd, qe, qf, qg, qh, qi, qj, qk, reduceCtorEq, reduceIte, c2, lt_f (a_0.args.length), g17_2, g17_3, g17_6, og17_0, og17_1]
theorem i_Extend_ok {append_0 : (List PairD)} {String_1 : ByteArray} {a_2 : ByteArray} {r : ((List PairD) × Bool)} (h : i_Extend append_0 String_1 a_2 = some r) : Sound Tryz.prog J0 140 [(false, [.sl 119 2 (List.map ePair append_0)]), (false, [.str String_1]), (false, [.str a_2])] [(false, [(false, .sl 119 2 (List.map ePair r.1))]), (false, [(false, .bool r.2)])] := by
  refine fnk Tryz.func140 (by kernel_rfl) rfl (by kernel_rfl) (by kernel_rfl) ?_
  unfold i_Extend at h
  simp only [fnS, f140, argSt, go_sem, qa, qb, qc, qd, qe, qf, qg, qh, qi, qj, qk, reduceCtorEq, reduceIte]
  obtain ⟨v1, e1, h⟩ := bind_K h
  refine call_K (by first | exact i_IsBinding_ok e1 | simpa only [go_sem, qa, qb, qc, qd, qe, qf, qg, qh, qi, qj, qk, reduceCtorEq, reduceIte] using i_IsBinding_ok e1) ?_
  try simp only [go_sem, qa, qb, qc, qd, qe, qf, qg, qh, qi, qj, qk, reduceCtorEq, reduceIte]
  refine ite_K h (fun c2 h => ?_) (fun c2 h => ?_)
  · try simp only [go_sem, qa, qb, qc, qd, qe, qf, qg, qh, qi, qj, qk, reduceCtorEq, reduceIte, c2]
    obtain ⟨v2, e3, h⟩ := bind_K h
    refine call_K (by first | exact i_IsVar_ok e3 | simpa only [go_sem, qa, qb, qc, qd, qe, qf, qg, qh, qi, qj, qk, reduceCtorEq, reduceIte, c2] using i_IsVar_ok e3) ?_
    try simp only [go_sem, qa, qb, qc, qd, qe, qf, qg, qh, qi, qj, qk, reduceCtorEq, reduceIte, c2]
    refine ite_K h (fun c4 h => ?_) (fun c4 h => ?_)
    · try simp only [go_sem, qa, qb, qc, qd, qe, qf, qg, qh, qi, qj, qk, reduceCtorEq, reduceIte, c2, c4]
      obtain ⟨v3, e5, h⟩ := bind_K h
      refine call_K (by first | exact i_IsAtom_ok e5 | simpa only [go_sem, qa, qb, qc, qd, qe, qf, qg, qh, qi, qj, qk, reduceCtorEq, reduceIte, c2, c4] using i_IsAtom_ok e5) ?_
      try simp only [go_sem, qa, qb, qc, qd, qe, qf, qg, qh, qi, qj, qk, reduceCtorEq, reduceIte, c2, c4]
      refine ite_K h (fun c6 h => ?_) (fun c6 h => ?_)
      · try simp only [go_sem, qa, qb, qc, qd, qe, qf, qg, qh, qi, qj, qk, reduceCtorEq, reduceIte, c2, c4, c6]
        obtain ⟨v4, e7, h⟩ := bind_K h
        refine call_K (by first | exact i_ValueOf_ok e7 | simpa only [go_sem, qa, qb, qc, qd, qe, qf, qg, qh, qi, qj, qk, reduceCtorEq, reduceIte, c2, c4, c6] using i_ValueOf_ok e7) ?_
        try simp only [go_sem, qa, qb, qc, qd, qe, qf, qg, qh, qi, qj, qk, reduceCtorEq, reduceIte, c2, c4, c6]
        refine ite_K h (fun c8 h => ?_) (fun c8 h => ?_)
        · try simp only [go_sem, qa, qb, qc, qd, qe, qf, qg, qh, qi, qj, qk, reduceCtorEq, reduceIte, c2, c4, c6, c8]
          refine ite_K h (fun c9 h => ?_) (fun c9 h => ?_)
          · try simp only [go_sem, qa, qb, qc, qd, qe, qf, qg, qh, qi, qj, qk, reduceCtorEq, reduceIte, c2, c4, c6, c8, c9]
            obtain ⟨v5, e10, h⟩ := bind_K h
            refine call_K (by first | exact i_copyPairs_ok e10 | simpa only [go_sem, qa, qb, qc, qd, qe, qf, qg, qh, qi, qj, qk, reduceCtorEq, reduceIte, c2, c4, c6, c8, c9] using i_copyPairs_ok e10) ?_
            obtain rfl := Option.some.inj h
            try simp only [go_sem, qa, qb, qc, qd, qe, qf, qg, qh, qi, qj, qk, reduceCtorEq, reduceIte, c2, c4, c6, c8, c9]
          · obtain rfl := Option.some.inj h
            try simp only [go_sem, qa, qb, qc, qd, qe, qf, qg, qh, qi, qj, qk, reduceCtorEq, reduceIte, c2, c4, c6, c8, c9]
        · try simp only [go_sem, qa, qb, qc, qd, qe, qf, qg, qh, qi, qj, qk, reduceCtorEq, reduceIte, c2, c4, c6, c8]
          refine ite_K h (fun c11 h => ?_) (fun c11 h => ?_)
          · obtain rfl := Option.some.inj h
            try simp only [go_sem, qa, qb, qc, qd, qe, qf, qg, qh, qi, qj, qk, reduceCtorEq, reduceIte, c2, c4, c6, c8, c11]
          · try simp only [go_sem, qa, qb, qc, qd, qe, qf, qg, qh, qi, qj, qk, reduceCtorEq, reduceIte, c2, c4, c6, c8, c11]
            refine swp_for h (fun i s st => match s with | (row_8, u_11) => IV [(1, .p false [.c (.str String_1)]), (2, .p false [.c (.str a_2)]), (10, .p false [.row 0]), (11, .p false [.c (.bool u_11)]), (42, .p false [.c (.sl 119 2 (List.map ePair append_0))]), (43, .p false [.c (.int .i64 ((append_0.length : Nat) : Int))]), (44, .p false [.c (.int .i64 ((i : Nat) : Int))])] [.row 119 2 (List.map ePair row_8) 2] st) [(false, 10, 0)] [512] (by decide) ?_ ?_ ?_
            · simp only [go_sem, qa, qb, qc, qd, qe, qf, qg, qh, qi, qj, qk, reduceCtorEq, reduceIte, IV, sts_cons, sts_nil, obs_cons, obs_nil, c2, c4, c6, c8, c11]
            · rintro i13 x14 ⟨row_8, u_11⟩ ⟨sl, ob, n⟩ y12 hx13 hI14 hW15 h hy12
              simp only [IV, sts_cons, sts_nil, obs_cons, obs_nil, and_true, true_and, Nat.reduceAdd, str_len] at hI14
              obtain ⟨⟨g16_1, g16_2, g16_10, g16_11, g16_42, g16_43, g16_44⟩, og16_0, hn⟩ := hI14
              subst hn
              have hlhx13 := WF.slotL hW15 g16_42 (j := 0) rfl
              try simp only [go_sem, qa, qb, qc, qd, qe, qf, qg, qh, qi, qj, qk, reduceCtorEq, reduceIte, c2, c4, c6, c8, c11, hx13, lt_t hx13, lt_p hx13, nat_in (lt_n hx13) hlhx13, g16_1, g16_2, g16_10, g16_11, g16_42, g16_43, g16_44, og16_0]
              refine ite_K h (fun c17 h => ?_) (fun c17 h => ?_)
              · obtain ⟨p18, h⟩ := chk_K h
                try simp only [Nat.reduceLeDiff] at p18
                try simp only [go_sem, qa, qb, qc, qd, qe, qf, qg, qh, qi, qj, qk, reduceCtorEq, reduceIte, c2, c4, c6, c8, c11, hx13, lt_t hx13, lt_p hx13, nat_in (lt_n hx13) hlhx13, c17, p18, g16_1, g16_2, g16_10, g16_11, g16_42, g16_43, g16_44, og16_0]
                refine ⟨_, [], [257], (Option.some.inj h).symm, by decide, ?_⟩
                try simp only [go_sem, qa, qb, qc, qd, qe, qf, qg, qh, qi, qj, qk, reduceCtorEq, reduceIte, c2, c4, c6, c8, c11, hx13, lt_t hx13, lt_p hx13, nat_in (lt_n hx13) hlhx13, c17, p18, g16_1, g16_2, g16_10, g16_11, g16_42, g16_43, g16_44, og16_0, IV, sts_cons, sts_nil, obs_cons, obs_nil]
              · try simp only [go_sem, qa, qb, qc, qd, qe, qf, qg, qh, qi, qj, qk, reduceCtorEq, reduceIte, c2, c4, c6, c8, c11, hx13, lt_t hx13, lt_p hx13, nat_in (lt_n hx13) hlhx13, c17, g16_1, g16_2, g16_10, g16_11, g16_42, g16_43, g16_44, og16_0]
                refine ite_K h (fun c19 h => ?_) (fun c19 h => ?_)
                · have c19' := c19
                  try simp only [c2, c4, c6, c8, c11, c17, Bool.false_or, Bool.or_false] at c19'
                  obtain ⟨p20, h⟩ := chk_K h
                  try simp only [Nat.reduceLeDiff] at p20
                  try simp only [go_sem, qa, qb, qc, qd, qe, qf, qg, qh, qi, qj, qk, reduceCtorEq, reduceIte, c2, c4, c6, c8, c11, hx13, lt_t hx13, lt_p hx13, nat_in (lt_n hx13) hlhx13, c17, c19, c19', p20, g16_1, g16_2, g16_10, g16_11, g16_42, g16_43, g16_44, og16_0]
                  refine ⟨_, [], [257], (Option.some.inj h).symm, by decide, ?_⟩
                  try simp only [go_sem, qa, qb, qc, qd, qe, qf, qg, qh, qi, qj, qk, reduceCtorEq, reduceIte, c2, c4, c6, c8, c11, hx13, lt_t hx13, lt_p hx13, nat_in (lt_n hx13) hlhx13, c17, c19, c19', p20, g16_1, g16_2, g16_10, g16_11, g16_42, g16_43, g16_44, og16_0, IV, sts_cons, sts_nil, obs_cons, obs_nil]
                · have c19' := c19
                  try simp only [c2, c4, c6, c8, c11, c17, Bool.false_or, Bool.or_false] at c19'
                  obtain ⟨p21, h⟩ := chk_K h
                  try simp only [Nat.reduceLeDiff] at p21
                  obtain ⟨p22, h⟩ := chk_K h
                  try simp only [Nat.reduceLeDiff] at p22
                  try simp only [go_sem, qa, qb, qc, qd, qe, qf, qg, qh, qi, qj, qk, reduceCtorEq, reduceIte, c2, c4, c6, c8, c11, hx13, lt_t hx13, lt_p hx13, nat_in (lt_n hx13) hlhx13, c17, c19, c19', p21, p22, g16_1, g16_2, g16_10, g16_11, g16_42, g16_43, g16_44, og16_0]
                  refine ⟨_, [], [385], (Option.some.inj h).symm, by decide, ?_⟩
                  try simp only [go_sem, qa, qb, qc, qd, qe, qf, qg, qh, qi, qj, qk, reduceCtorEq, reduceIte, c2, c4, c6, c8, c11, hx13, lt_t hx13, lt_p hx13, nat_in (lt_n hx13) hlhx13, c17, c19, c19', p21, p22, g16_1, g16_2, g16_10, g16_11, g16_42, g16_43, g16_44, og16_0, IV, sts_cons, sts_nil, obs_cons, obs_nil]
            · rintro ⟨row_8, u_11⟩ ⟨sl, ob, n⟩ hI23 hW24 h
              simp only [IV, sts_cons, sts_nil, obs_cons, obs_nil, and_true, true_and, Nat.reduceAdd, str_len] at hI23
              obtain ⟨⟨g25_1, g25_2, g25_10, g25_11, g25_42, g25_43, g25_44⟩, og25_0, hn⟩ := hI23
              subst hn
              try simp only [go_sem, qa, qb, qc, qd, qe, qf, qg, qh, qi, qj, qk, reduceCtorEq, reduceIte, c2, c4, c6, c8, c11, lt_f (append_0.length), g25_1, g25_2, g25_10, g25_11, g25_42, g25_43, g25_44, og25_0]
              refine ite_K h (fun c26 h => ?_) (fun c26 h => ?_)
              · obtain rfl := Option.some.inj h
                try simp only [go_sem, qa, qb, qc, qd, qe, qf, qg, qh, qi, qj, qk, reduceCtorEq, reduceIte, c2, c4, c6, c8, c11, lt_f (append_0.length), c26, g25_1, g25_2, g25_10, g25_11, g25_42, g25_43, g25_44, og25_0]
              · obtain ⟨p27, h⟩ := chk_K h
                try simp only [Nat.reduceLeDiff] at p27
                obtain rfl := Option.some.inj h
                try simp only [go_sem, qa, qb, qc, qd, qe, qf, qg, qh, qi, qj, qk, reduceCtorEq, reduceIte, c2, c4, c6, c8, c11, lt_f (append_0.length), c26, p27, g25_1, g25_2, g25_10, g25_11, g25_42, g25_43, g25_44, og25_0]
      · obtain rfl := Option.some.inj h
        try simp only [go_sem, qa, qb, qc, qd, qe, qf, qg, qh, qi, qj, qk, reduceCtorEq, reduceIte, c2, c4, c6]
    · obtain rfl := Option.some.inj h
      try simp only [go_sem, qa, qb, qc, qd, qe, qf, qg, qh, qi, qj, qk, reduceCtorEq, reduceIte, c2, c4]
  · obtain rfl := Option.some.inj h
    try simp only [go_sem, qa, qb, qc, qd, qe, qf, qg, qh, qi, qj, qk, reduceCtorEq, reduceIte, c2]
end Go.Proofs.YtlkgkkacnoaeaaaGreatDoor

namespace Go.Proofs.YtlkgkkacnoaeaaaGreatDoor
open Go.Proofs.Tryz
open Int renaming reduceLT → qa, reduceLE → qb, reduceBEq → qc, reduceBNe → qd
open Nat renaming reduceBNe → qe, reduceAdd → qf, reduceMul → qg, reduceEqDiff → qh, reduceLeDiff → qi, reduceLT → qj, reduceBEq → qk
set_option linter.unusedSimpArgs false
set_option linter.unusedVariables false
set_option maxRecDepth 1000000
set_option maxHeartbeats 4000000
theorem i_occursElsewhere_ok {r_0 : RuleD} {k_1 : Int} {v_2 : ByteArray} {r : Bool} (h : i_occursElsewhere r_0 k_1 v_2 = some r) : Sound Tryz.prog J0 145 [(true, eRule r_0), (false, [.int .i64 k_1]), (false, [.str v_2])] [(false, [(false, .bool r)])] := by
  refine fnk Tryz.func145 (by kernel_rfl) rfl (by kernel_rfl) (by kernel_rfl) ?_
  unfold i_occursElsewhere at h
  simp only [fnS, f145, argSt, go_sem, qa, qb, qc, qd, qe, qf, qg, qh, qi, qj, qk, reduceCtorEq, reduceIte]
  refine swp_for h (fun i _ st => IV [(1, .p false [.c (.int .i64 k_1)]), (2, .p false [.c (.str v_2)]), (3, .bp 0 0), (12, .p false [.c (.sl 99 5 (List.map eCond r_0.cond))]), (13, .p false [.c (.int .i64 ((r_0.cond.length : Nat) : Int))]), (14, .p false [.c (.int .i64 ((i : Nat) : Int))])] [.box 52 [.c (.str r_0.name), .c (.int .i64 r_0.priority), .c (.sl 99 5 (List.map eCond r_0.cond)), .c (.sl 62 3 (List.map eAction r_0.thn))]] st) [] [0] (by decide) ?_ ?_ ?_
  · simp only [go_sem, qa, qb, qc, qd, qe, qf, qg, qh, qi, qj, qk, reduceCtorEq, reduceIte, IV, sts_cons, sts_nil, obs_cons, obs_nil]
  · rintro i16 x17 ⟨⟩ ⟨sl, ob, n⟩ y1 hx2 hI3 hW4 h hy1
    simp only [IV, sts_cons, sts_nil, obs_cons, obs_nil, and_true, true_and, Nat.reduceAdd, str_len] at hI3
    obtain ⟨⟨g5_1, g5_2, g5_3, g5_12, g5_13, g5_14⟩, og5_0, hn⟩ := hI3
    subst hn
    have hlhx2 := WF.slotL hW4 g5_12 (j := 0) rfl
    try simp only [go_sem, qa, qb, qc, qd, qe, qf, qg, qh, qi, qj, qk, reduceCtorEq, reduceIte, hx2, lt_t hx2, lt_p hx2, nat_in (lt_n hx2) hlhx2, g5_1, g5_2, g5_3, g5_12, g5_13, g5_14, og5_0]
    refine ite_K h (fun c6 h => ?_) (fun c6 h => ?_)
    · try simp only [go_sem, qa, qb, qc, qd, qe, qf, qg, qh, qi, qj, qk, reduceCtorEq, reduceIte, hx2, lt_t hx2, lt_p hx2, nat_in (lt_n hx2) hlhx2, c6, g5_1, g5_2, g5_3, g5_12, g5_13, g5_14, og5_0]
      obtain ⟨v18, e7, h⟩ := bind_K h
      refine call_K (by first | exact i_CondVars_ok e7 | simpa only [go_sem, qa, qb, qc, qd, qe, qf, qg, qh, qi, qj, qk, reduceCtorEq, reduceIte, hx2, lt_t hx2, lt_p hx2, nat_in (lt_n hx2) hlhx2, c6, g5_1, g5_2, g5_3, g5_12, g5_13, g5_14, og5_0] using i_CondVars_ok e7) ?_
      try simp only [go_sem, qa, qb, qc, qd, qe, qf, qg, qh, qi, qj, qk, reduceCtorEq, reduceIte, hx2, lt_t hx2, lt_p hx2, nat_in (lt_n hx2) hlhx2, c6, g5_1, g5_2, g5_3, g5_12, g5_13, g5_14, og5_0]
      obtain ⟨v19, e8, h⟩ := bind_K h
      refine call_K (by first | exact i_hasText_ok e8 | simpa only [go_sem, qa, qb, qc, qd, qe, qf, qg, qh, qi, qj, qk, reduceCtorEq, reduceIte, hx2, lt_t hx2, lt_p hx2, nat_in (lt_n hx2) hlhx2, c6, g5_1, g5_2, g5_3, g5_12, g5_13, g5_14, og5_0] using i_hasText_ok e8) ?_
      try simp only [go_sem, qa, qb, qc, qd, qe, qf, qg, qh, qi, qj, qk, reduceCtorEq, reduceIte, hx2, lt_t hx2, lt_p hx2, nat_in (lt_n hx2) hlhx2, c6, g5_1, g5_2, g5_3, g5_12, g5_13, g5_14, og5_0]
      refine ite_K h (fun c9 h => ?_) (fun c9 h => ?_)
      · replace h := inr_K h hy1
        obtain rfl := Option.some.inj h
        try simp only [go_sem, qa, qb, qc, qd, qe, qf, qg, qh, qi, qj, qk, reduceCtorEq, reduceIte, hx2, lt_t hx2, lt_p hx2, nat_in (lt_n hx2) hlhx2, c6, c9, g5_1, g5_2, g5_3, g5_12, g5_13, g5_14, og5_0]
      · try simp only [go_sem, qa, qb, qc, qd, qe, qf, qg, qh, qi, qj, qk, reduceCtorEq, reduceIte, hx2, lt_t hx2, lt_p hx2, nat_in (lt_n hx2) hlhx2, c6, c9, g5_1, g5_2, g5_3, g5_12, g5_13, g5_14, og5_0]
        refine ⟨_, [], [0], (Option.some.inj h).symm, by decide, ?_⟩
        try simp only [go_sem, qa, qb, qc, qd, qe, qf, qg, qh, qi, qj, qk, reduceCtorEq, reduceIte, hx2, lt_t hx2, lt_p hx2, nat_in (lt_n hx2) hlhx2, c6, c9, g5_1, g5_2, g5_3, g5_12, g5_13, g5_14, og5_0, IV, sts_cons, sts_nil, obs_cons, obs_nil]
    · try simp only [go_sem, qa, qb, qc, qd, qe, qf, qg, qh, qi, qj, qk, reduceCtorEq, reduceIte, hx2, lt_t hx2, lt_p hx2, nat_in (lt_n hx2) hlhx2, c6, g5_1, g5_2, g5_3, g5_12, g5_13, g5_14, og5_0]
      refine ⟨_, [], [0], (Option.some.inj h).symm, by decide, ?_⟩
      try simp only [go_sem, qa, qb, qc, qd, qe, qf, qg, qh, qi, qj, qk, reduceCtorEq, reduceIte, hx2, lt_t hx2, lt_p hx2, nat_in (lt_n hx2) hlhx2, c6, g5_1, g5_2, g5_3, g5_12, g5_13, g5_14, og5_0, IV, sts_cons, sts_nil, obs_cons, obs_nil]
  · rintro ⟨⟩ ⟨sl, ob, n⟩ hI10 hW11 h
    simp only [IV, sts_cons, sts_nil, obs_cons, obs_nil, and_true, true_and, Nat.reduceAdd, str_len] at hI10
    obtain ⟨⟨g12_1, g12_2, g12_3, g12_12, g12_13, g12_14⟩, og12_0, hn⟩ := hI10
    subst hn
    try simp only [go_sem, qa, qb, qc, qd, qe, qf, qg, qh, qi, qj, qk, reduceCtorEq, reduceIte, lt_f (r_0.cond.length), g12_1, g12_2, g12_3, g12_12, g12_13, g12_14, og12_0]
    refine swp_for h (fun i _ st => IV [(2, .p false [.c (.str v_2)]), (30, .p false [.c (.sl 62 3 (List.map eAction r_0.thn))]), (31, .p false [.c (.int .i64 ((r_0.thn.length : Nat) : Int))]), (32, .p false [.c (.int .i64 ((i : Nat) : Int))])] [] st) [] [] (by decide) ?_ ?_ ?_
    · simp only [go_sem, qa, qb, qc, qd, qe, qf, qg, qh, qi, qj, qk, reduceCtorEq, reduceIte, IV, sts_cons, sts_nil, obs_cons, obs_nil, lt_f (r_0.cond.length), g12_1, g12_2, g12_3, g12_12, g12_13, g12_14, og12_0]
    · rintro i25 x26 ⟨⟩ ⟨sl, ob, n⟩ y13 hx14 hI15 hW16 h hy13
      simp only [IV, sts_cons, sts_nil, obs_cons, obs_nil, and_true, true_and, Nat.reduceAdd, str_len] at hI15
      obtain ⟨⟨g17_2, g17_30, g17_31, g17_32⟩, hn⟩ := hI15
      subst hn
      have hlhx14 := WF.slotL hW16 g17_30 (j := 0) rfl
      try simp only [go_sem, qa, qb, qc, qd, qe, qf, qg, qh, qi, qj, qk, reduceCtorEq, reduceIte, lt_f (r_0.cond.length), hx14, lt_t hx14, lt_p hx14, nat_in (lt_n hx14) hlhx14, g17_2, g17_30, g17_31, g17_32]
      obtain ⟨v27, e18, h⟩ := bind_K h
      refine call_K (by first | exact i_hasText_ok e18 | simpa only [go_sem, qa, qb, qc, qd, qe, qf, qg, qh, qi, qj, qk, reduceCtorEq, reduceIte, lt_f (r_0.cond.length), hx14, lt_t hx14, lt_p hx14, nat_in (lt_n hx14) hlhx14, g17_2, g17_30, g17_31, g17_32] using i_hasText_ok e18) ?_
      try simp only [go_sem, qa, qb, qc, qd, qe, qf, qg, qh, qi, qj, qk, reduceCtorEq, reduceIte, lt_f (r_0.cond.length), hx14, lt_t hx14, lt_p hx14, nat_in (lt_n hx14) hlhx14, g17_2, g17_30, g17_31, g17_32]
      refine ite_K h (fun c19 h => ?_) (fun c19 h => ?_)
      · replace h := inr_K h hy13
        obtain rfl := Option.some.inj h
        try simp only [go_sem, qa, qb, qc, qd, qe, qf, qg, qh, qi, qj, qk, reduceCtorEq, reduceIte, lt_f (r_0.cond.length), hx14, lt_t hx14, lt_p hx14, nat_in (lt_n hx14) hlhx14, c19, g17_2, g17_30, g17_31, g17_32]
      · try simp only [go_sem, qa, qb, qc, qd, qe, qf, qg, qh, qi, qj, qk, reduceCtorEq, reduceIte, lt_f (r_0.cond.length), hx14, lt_t hx14, lt_p hx14, nat_in (lt_n hx14) hlhx14, c19, g17_2, g17_30, g17_31, g17_32]
        refine ⟨_, [], [], (Option.some.inj h).symm, by decide, ?_⟩
        try simp only [go_sem, qa, qb, qc, qd, qe, qf, qg, qh, qi, qj, qk, reduceCtorEq, reduceIte, lt_f (r_0.cond.length), hx14, lt_t hx14, lt_p hx14, nat_in (lt_n hx14) hlhx14, c19, g17_2, g17_30, g17_31, g17_32, IV, sts_cons, sts_nil, obs_cons, obs_nil]
    · rintro ⟨⟩ ⟨sl, ob, n⟩ hI20 hW21 h
      simp only [IV, sts_cons, sts_nil, obs_cons, obs_nil, and_true, true_and, Nat.reduceAdd, str_len] at hI20
      obtain ⟨⟨g22_2, g22_30, g22_31, g22_32⟩, hn⟩ := hI20
      subst hn
      obtain rfl := Option.some.inj h
      try simp only [go_sem, qa, qb, qc, qd, qe, qf, qg, qh, qi, qj, qk, reduceCtorEq, reduceIte, lt_f (r_0.cond.length), lt_f (r_0.thn.length), g22_2, g22_30, g22_31, g22_32]
theorem i_IsAction_ok {a_0 : ActionD} {r : Bool} (h : i_IsAction a_0 = some r) : Sound Tryz.prog J0 112 [(true, eAction a_0)] [(false, [(false, .bool r)])] := by
  refine fnk Tryz.func112 (by kernel_rfl) rfl (by kernel_rfl) (by kernel_rfl) ?_
  unfold i_IsAction at h
  simp only [fnS, f112, argSt, go_sem, qa, qb, qc, qd, qe, qf, qg, qh, qi, qj, qk, reduceCtorEq, reduceIte]
  refine ite_K h (fun c1 h => ?_) (fun c1 h => ?_)
  · try simp only [go_sem, qa, qb, qc, qd, qe, qf, qg, qh, qi, qj, qk, reduceCtorEq, reduceIte, c1]
    obtain ⟨v1, e2, h⟩ := bind_K h
    refine call_K (by first | exact i_IsPattern_ok e2 | simpa only [go_sem, qa, qb, qc, qd, qe, qf, qg, qh, qi, qj, qk, reduceCtorEq, reduceIte, c1] using i_IsPattern_ok e2) ?_
    obtain rfl := Option.some.inj h
    try simp only [go_sem, qa, qb, qc, qd, qe, qf, qg, qh, qi, qj, qk, reduceCtorEq, reduceIte, c1]
  · try simp only [go_sem, qa, qb, qc, qd, qe, qf, qg, qh, qi, qj, qk, reduceCtorEq, reduceIte, c1]
    refine ite_K h (fun c3 h => ?_) (fun c3 h => ?_)
    · try simp only [go_sem, qa, qb, qc, qd, qe, qf, qg, qh, qi, qj, qk, reduceCtorEq, reduceIte, c1, c3]
      obtain ⟨v2, e4, h⟩ := bind_K h
      refine call_K (by first | exact i_IsPattern_ok e4 | simpa only [go_sem, qa, qb, qc, qd, qe, qf, qg, qh, qi, qj, qk, reduceCtorEq, reduceIte, c1, c3] using i_IsPattern_ok e4) ?_
      obtain rfl := Option.some.inj h
      try simp only [go_sem, qa, qb, qc, qd, qe, qf, qg, qh, qi, qj, qk, reduceCtorEq, reduceIte, c1, c3]
    · try simp only [go_sem, qa, qb, qc, qd, qe, qf, qg, qh, qi, qj, qk, reduceCtorEq, reduceIte, c1, c3]
      refine ite_K h (fun c5 h => ?_) (fun c5 h => ?_)
      · try simp only [go_sem, qa, qb, qc, qd, qe, qf, qg, qh, qi, qj, qk, reduceCtorEq, reduceIte, c1, c3, c5]
        obtain ⟨v3, e6, h⟩ := bind_K h
        refine call_K (by first | exact i_zeroPattern_ok e6 | simpa only [go_sem, qa, qb, qc, qd, qe, qf, qg, qh, qi, qj, qk, reduceCtorEq, reduceIte, c1, c3, c5] using i_zeroPattern_ok e6) ?_
        obtain rfl := Option.some.inj h
        try simp only [go_sem, qa, qb, qc, qd, qe, qf, qg, qh, qi, qj, qk, reduceCtorEq, reduceIte, c1, c3, c5]
      · obtain rfl := Option.some.inj h
        try simp only [go_sem, qa, qb, qc, qd, qe, qf, qg, qh, qi, qj, qk, reduceCtorEq, reduceIte, c1, c3, c5]
theorem i_condVarsOf_ok {l_0 : (List CondD)} {r : (List ByteArray)} (h : i_condVarsOf l_0 = some r) : Sound Tryz.prog J0 116 [(false, [.sl 99 5 (List.map eCond l_0)])] [(false, [(false, .sl 9 1 (List.map eStr r))])] := by
  refine fnk Tryz.func116 (by kernel_rfl) rfl (by kernel_rfl) (by kernel_rfl) ?_
  unfold i_condVarsOf at h
  simp only [fnS, f116, argSt, go_sem, qa, qb, qc, qd, qe, qf, qg, qh, qi, qj, qk, reduceCtorEq, reduceIte]
  refine swp_for h (fun i row_5 st => IV [(3, .p false [.row 0]), (6, .p false [.c (.sl 99 5 (List.map eCond l_0))]), (7, .p false [.c (.int .i64 ((l_0.length : Nat) : Int))]), (8, .p false [.c (.int .i64 ((i : Nat) : Int))])] [.row 9 1 (List.map eStr row_5) 2] st) [(false, 3, 0)] [80] (by decide) ?_ ?_ ?_
  · simp only [go_sem, qa, qb, qc, qd, qe, qf, qg, qh, qi, qj, qk, reduceCtorEq, reduceIte, IV, sts_cons, sts_nil, obs_cons, obs_nil]
  · rintro i9 x10 row_5 ⟨sl, ob, n⟩ y1 hx2 hI3 hW4 h hy1
    simp only [IV, sts_cons, sts_nil, obs_cons, obs_nil, and_true, true_and, Nat.reduceAdd, str_len] at hI3
    obtain ⟨⟨g5_3, g5_6, g5_7, g5_8⟩, og5_0, hn⟩ := hI3
    subst hn
    have hlhx2 := WF.slotL hW4 g5_6 (j := 0) rfl
    try simp only [go_sem, qa, qb, qc, qd, qe, qf, qg, qh, qi, qj, qk, reduceCtorEq, reduceIte, hx2, lt_t hx2, lt_p hx2, nat_in (lt_n hx2) hlhx2, g5_3, g5_6, g5_7, g5_8, og5_0]
    obtain ⟨v11, e6, h⟩ := bind_K h
    refine call_K (by first | exact i_CondVars_ok e6 | simpa only [go_sem, qa, qb, qc, qd, qe, qf, qg, qh, qi, qj, qk, reduceCtorEq, reduceIte, hx2, lt_t hx2, lt_p hx2, nat_in (lt_n hx2) hlhx2, g5_3, g5_6, g5_7, g5_8, og5_0] using i_CondVars_ok e6) ?_
    obtain ⟨p7, h⟩ := chk_K h
    try simp only [Nat.reduceLeDiff] at p7
    try simp only [go_sem, qa, qb, qc, qd, qe, qf, qg, qh, qi, qj, qk, reduceCtorEq, reduceIte, hx2, lt_t hx2, lt_p hx2, nat_in (lt_n hx2) hlhx2, p7, g5_3, g5_6, g5_7, g5_8, og5_0]
    refine ⟨_, [], [129], (Option.some.inj h).symm, by decide, ?_⟩
    try simp only [go_sem, qa, qb, qc, qd, qe, qf, qg, qh, qi, qj, qk, reduceCtorEq, reduceIte, hx2, lt_t hx2, lt_p hx2, nat_in (lt_n hx2) hlhx2, p7, g5_3, g5_6, g5_7, g5_8, og5_0, IV, sts_cons, sts_nil, obs_cons, obs_nil]
  · rintro row_5 ⟨sl, ob, n⟩ hI8 hW9 h
    simp only [IV, sts_cons, sts_nil, obs_cons, obs_nil, and_true, true_and, Nat.reduceAdd, str_len] at hI8
    obtain ⟨⟨g10_3, g10_6, g10_7, g10_8⟩, og10_0, hn⟩ := hI8
    subst hn
    obtain rfl := Option.some.inj h
    try simp only [go_sem, qa, qb, qc, qd, qe, qf, qg, qh, qi, qj, qk, reduceCtorEq, reduceIte, lt_f (l_0.length), g10_3, g10_6, g10_7, g10_8, og10_0]
theorem i_AreFacts_ok {l_0 : (List FactD)} {r : Bool} (h : i_AreFacts l_0 = some r) : Sound Tryz.prog J0 29 [(false, [.sl 57 2 (List.map eFact l_0)])] [(false, [(false, .bool r)])] := by
  refine fnk Tryz.func29 (by kernel_rfl) rfl (by kernel_rfl) (by kernel_rfl) ?_
  unfold i_AreFacts at h
  simp only [fnS, f29, argSt, go_sem, qa, qb, qc, qd, qe, qf, qg, qh, qi, qj, qk, reduceCtorEq, reduceIte]
  refine ite_K h (fun c1 h => ?_) (fun c1 h => ?_)
  · obtain rfl := Option.some.inj h
    try simp only [go_sem, qa, qb, qc, qd, qe, qf, qg, qh, qi, qj, qk, reduceCtorEq, reduceIte, c1]
  · try simp only [go_sem, qa, qb, qc, qd, qe, qf, qg, qh, qi, qj, qk, reduceCtorEq, reduceIte, c1]
    refine swp_for h (fun i _ st => IV [(0, .p false [.c (.sl 57 2 (List.map eFact l_0))]), (8, .p false [.c (.sl 57 2 (List.map eFact l_0))]), (9, .p false [.c (.int .i64 ((l_0.length : Nat) : Int))]), (10, .p false [.c (.int .i64 ((i : Nat) : Int))])] [] st) [] [] (by decide) ?_ ?_ ?_
    · simp only [go_sem, qa, qb, qc, qd, qe, qf, qg, qh, qi, qj, qk, reduceCtorEq, reduceIte, IV, sts_cons, sts_nil, obs_cons, obs_nil, c1]
    · rintro i8 x9 ⟨⟩ ⟨sl, ob, n⟩ y2 hx3 hI4 hW5 h hy2
      simp only [IV, sts_cons, sts_nil, obs_cons, obs_nil, and_true, true_and, Nat.reduceAdd, str_len] at hI4
      obtain ⟨⟨g6_0, g6_8, g6_9, g6_10⟩, hn⟩ := hI4
      subst hn
      have hlhx3 := WF.slotL hW5 g6_0 (j := 0) rfl
      try simp only [go_sem, qa, qb, qc, qd, qe, qf, qg, qh, qi, qj, qk, reduceCtorEq, reduceIte, c1, hx3, lt_t hx3, lt_p hx3, nat_in (lt_n hx3) hlhx3, g6_0, g6_8, g6_9, g6_10]
      obtain ⟨v10, e7, h⟩ := bind_K h
      refine call_K (by first | exact i_IsFact_ok e7 | simpa only [go_sem, qa, qb, qc, qd, qe, qf, qg, qh, qi, qj, qk, reduceCtorEq, reduceIte, c1, hx3, lt_t hx3, lt_p hx3, nat_in (lt_n hx3) hlhx3, g6_0, g6_8, g6_9, g6_10] using i_IsFact_ok e7) ?_
      try simp only [go_sem, qa, qb, qc, qd, qe, qf, qg, qh, qi, qj, qk, reduceCtorEq, reduceIte, c1, hx3, lt_t hx3, lt_p hx3, nat_in (lt_n hx3) hlhx3, g6_0, g6_8, g6_9, g6_10]
      refine ite_K h (fun c8 h => ?_) (fun c8 h => ?_)
      · try simp only [go_sem, qa, qb, qc, qd, qe, qf, qg, qh, qi, qj, qk, reduceCtorEq, reduceIte, c1, hx3, lt_t hx3, lt_p hx3, nat_in (lt_n hx3) hlhx3, c8, g6_0, g6_8, g6_9, g6_10]
        refine ite_K h (fun c9 h => ?_) (fun c9 h => ?_)
        · obtain ⟨x11, a10, a11, e12, h⟩ := at_K h
          try simp only [go_sem, qa, qb, qc, qd, qe, qf, qg, qh, qi, qj, qk, reduceCtorEq, reduceIte, c1, hx3, lt_t hx3, lt_p hx3, nat_in (lt_n hx3) hlhx3, c8, c9, a10, a11, e12, g6_0, g6_8, g6_9, g6_10]
          obtain ⟨v12, e13, h⟩ := bind_K h
          refine call_K (by first | exact i_CompareFacts_ok e13 | simpa only [go_sem, qa, qb, qc, qd, qe, qf, qg, qh, qi, qj, qk, reduceCtorEq, reduceIte, c1, hx3, lt_t hx3, lt_p hx3, nat_in (lt_n hx3) hlhx3, c8, c9, a10, a11, e12, g6_0, g6_8, g6_9, g6_10] using i_CompareFacts_ok e13) ?_
          try simp only [go_sem, qa, qb, qc, qd, qe, qf, qg, qh, qi, qj, qk, reduceCtorEq, reduceIte, c1, hx3, lt_t hx3, lt_p hx3, nat_in (lt_n hx3) hlhx3, c8, c9, a10, a11, e12, g6_0, g6_8, g6_9, g6_10]
          refine ite_K h (fun c14 h => ?_) (fun c14 h => ?_)
          · replace h := inr_K h hy2
            obtain rfl := Option.some.inj h
            try simp only [go_sem, qa, qb, qc, qd, qe, qf, qg, qh, qi, qj, qk, reduceCtorEq, reduceIte, c1, hx3, lt_t hx3, lt_p hx3, nat_in (lt_n hx3) hlhx3, c8, c9, a10, a11, e12, c14, g6_0, g6_8, g6_9, g6_10]
          · try simp only [go_sem, qa, qb, qc, qd, qe, qf, qg, qh, qi, qj, qk, reduceCtorEq, reduceIte, c1, hx3, lt_t hx3, lt_p hx3, nat_in (lt_n hx3) hlhx3, c8, c9, a10, a11, e12, c14, g6_0, g6_8, g6_9, g6_10]
            refine ⟨_, [], [], (Option.some.inj h).symm, by decide, ?_⟩
            try simp only [go_sem, qa, qb, qc, qd, qe, qf, qg, qh, qi, qj, qk, reduceCtorEq, reduceIte, c1, hx3, lt_t hx3, lt_p hx3, nat_in (lt_n hx3) hlhx3, c8, c9, a10, a11, e12, c14, g6_0, g6_8, g6_9, g6_10, IV, sts_cons, sts_nil, obs_cons, obs_nil]
        · try simp only [go_sem, qa, qb, qc, qd, qe, qf, qg, qh, qi, qj, qk, reduceCtorEq, reduceIte, c1, hx3, lt_t hx3, lt_p hx3, nat_in (lt_n hx3) hlhx3, c8, c9, g6_0, g6_8, g6_9, g6_10]
          refine ⟨_, [], [], (Option.some.inj h).symm, by decide, ?_⟩
          try simp only [go_sem, qa, qb, qc, qd, qe, qf, qg, qh, qi, qj, qk, reduceCtorEq, reduceIte, c1, hx3, lt_t hx3, lt_p hx3, nat_in (lt_n hx3) hlhx3, c8, c9, g6_0, g6_8, g6_9, g6_10, IV, sts_cons, sts_nil, obs_cons, obs_nil]
      · replace h := inr_K h hy2
        obtain rfl := Option.some.inj h
        try simp only [go_sem, qa, qb, qc, qd, qe, qf, qg, qh, qi, qj, qk, reduceCtorEq, reduceIte, c1, hx3, lt_t hx3, lt_p hx3, nat_in (lt_n hx3) hlhx3, c8, g6_0, g6_8, g6_9, g6_10]
    · rintro ⟨⟩ ⟨sl, ob, n⟩ hI15 hW16 h
      simp only [IV, sts_cons, sts_nil, obs_cons, obs_nil, and_true, true_and, Nat.reduceAdd, str_len] at hI15
      obtain ⟨⟨g17_0, g17_8, g17_9, g17_10⟩, hn⟩ := hI15
      subst hn
      obtain rfl := Option.some.inj h
      try simp only [go_sem, qa, qb, qc, qd, qe, qf, qg, qh, qi, qj, qk, reduceCtorEq, reduceIte, c1, lt_f (l_0.length), g17_0, g17_8, g17_9, g17_10]
theorem i_MatchFact_ok {append_0 : PatternD} {String_1 : FactD} {a_2 : (List PairD)} {r : ((List PairD) × Bool)} (h : i_MatchFact append_0 String_1 a_2 = some r) : Sound Tryz.prog J0 85 [(true, ePattern append_0), (true, eFact String_1), (false, [.sl 119 2 (List.map ePair a_2)])] [(false, [(false, .sl 119 2 (List.map ePair r.1))]), (false, [(false, .bool r.2)])] := by
  refine fnk Tryz.func85 (by kernel_rfl) rfl (by kernel_rfl) (by kernel_rfl) ?_
  unfold i_MatchFact at h
  simp only [fnS, f85, argSt, go_sem, qa, qb, qc, qd, qe, qf, qg, qh, qi, qj, qk, reduceCtorEq, reduceIte]
  obtain ⟨v1, e1, h⟩ := bind_K h
  refine call_K (by first | exact i_IsPattern_ok e1 | simpa only [go_sem, qa, qb, qc, qd, qe, qf, qg, qh, qi, qj, qk, reduceCtorEq, reduceIte] using i_IsPattern_ok e1) ?_
  try simp only [go_sem, qa, qb, qc, qd, qe, qf, qg, qh, qi, qj, qk, reduceCtorEq, reduceIte]
  refine ite_K h (fun c2 h => ?_) (fun c2 h => ?_)
  · try simp only [go_sem, qa, qb, qc, qd, qe, qf, qg, qh, qi, qj, qk, reduceCtorEq, reduceIte, c2]
    obtain ⟨v2, e3, h⟩ := bind_K h
    refine call_K (by first | exact i_IsFact_ok e3 | simpa only [go_sem, qa, qb, qc, qd, qe, qf, qg, qh, qi, qj, qk, reduceCtorEq, reduceIte, c2] using i_IsFact_ok e3) ?_
    try simp only [go_sem, qa, qb, qc, qd, qe, qf, qg, qh, qi, qj, qk, reduceCtorEq, reduceIte, c2]
    refine ite_K h (fun c4 h => ?_) (fun c4 h => ?_)
    · try simp only [go_sem, qa, qb, qc, qd, qe, qf, qg, qh, qi, qj, qk, reduceCtorEq, reduceIte, c2, c4]
      obtain ⟨v3, e5, h⟩ := bind_K h
      refine call_K (by first | exact i_IsBinding_ok e5 | simpa only [go_sem, qa, qb, qc, qd, qe, qf, qg, qh, qi, qj, qk, reduceCtorEq, reduceIte, c2, c4] using i_IsBinding_ok e5) ?_
      try simp only [go_sem, qa, qb, qc, qd, qe, qf, qg, qh, qi, qj, qk, reduceCtorEq, reduceIte, c2, c4]
      refine ite_K h (fun c6 h => ?_) (fun c6 h => ?_)
      · try simp only [go_sem, qa, qb, qc, qd, qe, qf, qg, qh, qi, qj, qk, reduceCtorEq, reduceIte, c2, c4, c6]
        refine ite_K h (fun c7 h => ?_) (fun c7 h => ?_)
        · try simp only [go_sem, qa, qb, qc, qd, qe, qf, qg, qh, qi, qj, qk, reduceCtorEq, reduceIte, c2, c4, c6, c7]
          refine ite_K h (fun c8 h => ?_) (fun c8 h => ?_)
          · obtain rfl := Option.some.inj h
            try simp only [go_sem, qa, qb, qc, qd, qe, qf, qg, qh, qi, qj, qk, reduceCtorEq, reduceIte, c2, c4, c6, c7, c8]
          · try simp only [go_sem, qa, qb, qc, qd, qe, qf, qg, qh, qi, qj, qk, reduceCtorEq, reduceIte, c2, c4, c6, c7, c8]
            obtain ⟨v4, e9, h⟩ := bind_K h
            refine call_K (by first | exact i_copyPairs_ok e9 | simpa only [go_sem, qa, qb, qc, qd, qe, qf, qg, qh, qi, qj, qk, reduceCtorEq, reduceIte, c2, c4, c6, c7, c8] using i_copyPairs_ok e9) ?_
            try simp only [go_sem, qa, qb, qc, qd, qe, qf, qg, qh, qi, qj, qk, reduceCtorEq, reduceIte, c2, c4, c6, c7, c8]
            refine swp_for h (fun i row_16 st => IV [(4, .bp 0 0), (8, .p false [.row 1]), (45, .p false [.c (.sl 9 1 (List.map eStr append_0.args))]), (46, .p false [.c (.int .i64 ((append_0.args.length : Nat) : Int))]), (47, .p false [.c (.int .i64 ((i : Nat) : Int))])] [.box 57 [.c (.str String_1.rel), .c (.sl 9 1 (List.map eStr String_1.args))], .row 119 2 (List.map ePair row_16) 2] st) [] [16, 544] (by decide) ?_ ?_ ?_
            · simp only [go_sem, qa, qb, qc, qd, qe, qf, qg, qh, qi, qj, qk, reduceCtorEq, reduceIte, IV, sts_cons, sts_nil, obs_cons, obs_nil, c2, c4, c6, c7, c8]
            · rintro i22 x23 row_16 ⟨sl, ob, n⟩ y10 hx11 hI12 hW13 h hy10
              simp only [IV, sts_cons, sts_nil, obs_cons, obs_nil, and_true, true_and, Nat.reduceAdd, str_len] at hI12
              obtain ⟨⟨g14_4, g14_8, g14_45, g14_46, g14_47⟩, og14_0, og14_1, hn⟩ := hI12
              subst hn
              have hlhx11 := WF.slotL hW13 g14_45 (j := 0) rfl
              try simp only [go_sem, qa, qb, qc, qd, qe, qf, qg, qh, qi, qj, qk, reduceCtorEq, reduceIte, c2, c4, c6, c7, c8, hx11, lt_t hx11, lt_p hx11, nat_in (lt_n hx11) hlhx11, g14_4, g14_8, g14_45, g14_46, g14_47, og14_0, og14_1]
              obtain ⟨v24, e15, h⟩ := bind_K h
              refine call_K (by first | exact i_IsAtom_ok e15 | simpa only [go_sem, qa, qb, qc, qd, qe, qf, qg, qh, qi, qj, qk, reduceCtorEq, reduceIte, c2, c4, c6, c7, c8, hx11, lt_t hx11, lt_p hx11, nat_in (lt_n hx11) hlhx11, g14_4, g14_8, g14_45, g14_46, g14_47, og14_0, og14_1] using i_IsAtom_ok e15) ?_
              try simp only [go_sem, qa, qb, qc, qd, qe, qf, qg, qh, qi, qj, qk, reduceCtorEq, reduceIte, c2, c4, c6, c7, c8, hx11, lt_t hx11, lt_p hx11, nat_in (lt_n hx11) hlhx11, g14_4, g14_8, g14_45, g14_46, g14_47, og14_0, og14_1]
              refine ite_K h (fun c16 h => ?_) (fun c16 h => ?_)
              · obtain ⟨x25, a17, a18, e19, h⟩ := at_K h
                simp only [Int.toNat_natCast] at e19
                try simp only [go_sem, qa, qb, qc, qd, qe, qf, qg, qh, qi, qj, qk, reduceCtorEq, reduceIte, c2, c4, c6, c7, c8, hx11, lt_t hx11, lt_p hx11, nat_in (lt_n hx11) hlhx11, c16, a17, a18, e19, g14_4, g14_8, g14_45, g14_46, g14_47, og14_0, og14_1]
                refine ite_K h (fun c20 h => ?_) (fun c20 h => ?_)
                · try simp only [go_sem, qa, qb, qc, qd, qe, qf, qg, qh, qi, qj, qk, reduceCtorEq, reduceIte, c2, c4, c6, c7, c8, hx11, lt_t hx11, lt_p hx11, nat_in (lt_n hx11) hlhx11, c16, a17, a18, e19, c20, g14_4, g14_8, g14_45, g14_46, g14_47, og14_0, og14_1]
                  refine ⟨_, [], [0, 1], (Option.some.inj h).symm, by decide, ?_⟩
                  try simp only [go_sem, qa, qb, qc, qd, qe, qf, qg, qh, qi, qj, qk, reduceCtorEq, reduceIte, c2, c4, c6, c7, c8, hx11, lt_t hx11, lt_p hx11, nat_in (lt_n hx11) hlhx11, c16, a17, a18, e19, c20, g14_4, g14_8, g14_45, g14_46, g14_47, og14_0, og14_1, IV, sts_cons, sts_nil, obs_cons, obs_nil]
                · replace h := inr_K h hy10
                  obtain rfl := Option.some.inj h
                  try simp only [go_sem, qa, qb, qc, qd, qe, qf, qg, qh, qi, qj, qk, reduceCtorEq, reduceIte, c2, c4, c6, c7, c8, hx11, lt_t hx11, lt_p hx11, nat_in (lt_n hx11) hlhx11, c16, a17, a18, e19, c20, g14_4, g14_8, g14_45, g14_46, g14_47, og14_0, og14_1]
              · obtain ⟨x26, a21, a22, e23, h⟩ := at_K h
                simp only [Int.toNat_natCast] at e23
                try simp only [go_sem, qa, qb, qc, qd, qe, qf, qg, qh, qi, qj, qk, reduceCtorEq, reduceIte, c2, c4, c6, c7, c8, hx11, lt_t hx11, lt_p hx11, nat_in (lt_n hx11) hlhx11, c16, a21, a22, e23, g14_4, g14_8, g14_45, g14_46, g14_47, og14_0, og14_1]
                obtain ⟨v27, e24, h⟩ := bind_K h
                refine call_K (by first | exact i_Extend_ok e24 | simpa only [go_sem, qa, qb, qc, qd, qe, qf, qg, qh, qi, qj, qk, reduceCtorEq, reduceIte, c2, c4, c6, c7, c8, hx11, lt_t hx11, lt_p hx11, nat_in (lt_n hx11) hlhx11, c16, a21, a22, e23, g14_4, g14_8, g14_45, g14_46, g14_47, og14_0, og14_1] using i_Extend_ok e24) ?_
                try simp only [go_sem, qa, qb, qc, qd, qe, qf, qg, qh, qi, qj, qk, reduceCtorEq, reduceIte, c2, c4, c6, c7, c8, hx11, lt_t hx11, lt_p hx11, nat_in (lt_n hx11) hlhx11, c16, a21, a22, e23, g14_4, g14_8, g14_45, g14_46, g14_47, og14_0, og14_1]
                refine ite_K h (fun c25 h => ?_) (fun c25 h => ?_)
                · try simp only [go_sem, qa, qb, qc, qd, qe, qf, qg, qh, qi, qj, qk, reduceCtorEq, reduceIte, c2, c4, c6, c7, c8, hx11, lt_t hx11, lt_p hx11, nat_in (lt_n hx11) hlhx11, c16, a21, a22, e23, c25, g14_4, g14_8, g14_45, g14_46, g14_47, og14_0, og14_1]
                  refine ⟨_, [], [0, 242], (Option.some.inj h).symm, by decide, ?_⟩
                  try simp only [go_sem, qa, qb, qc, qd, qe, qf, qg, qh, qi, qj, qk, reduceCtorEq, reduceIte, c2, c4, c6, c7, c8, hx11, lt_t hx11, lt_p hx11, nat_in (lt_n hx11) hlhx11, c16, a21, a22, e23, c25, g14_4, g14_8, g14_45, g14_46, g14_47, og14_0, og14_1, IV, sts_cons, sts_nil, obs_cons, obs_nil]
                · replace h := inr_K h hy10
                  obtain rfl := Option.some.inj h
                  try simp only [go_sem, qa, qb, qc, qd, qe, qf, qg, qh, qi, qj, qk, reduceCtorEq, reduceIte, c2, c4, c6, c7, c8, hx11, lt_t hx11, lt_p hx11, nat_in (lt_n hx11) hlhx11, c16, a21, a22, e23, c25, g14_4, g14_8, g14_45, g14_46, g14_47, og14_0, og14_1]
            · rintro row_16 ⟨sl, ob, n⟩ hI26 hW27 h
              simp only [IV, sts_cons, sts_nil, obs_cons, obs_nil, and_true, true_and, Nat.reduceAdd, str_len] at hI26
              obtain ⟨⟨g28_4, g28_8, g28_45, g28_46, g28_47⟩, og28_0, og28_1, hn⟩ := hI26
              subst hn
              obtain rfl := Option.some.inj h
              try simp only [go_sem, qa, qb, qc, qd, qe, qf, qg, qh, qi, qj, qk, reduceCtorEq, reduceIte, c2, c4, c6, c7, c8, lt_f (append_0.args.length), g28_4, g28_8, g28_45, g28_46, g28_47, og28_0, og28_1]
        · obtain rfl := Option.some.inj h
          try simp only [go_sem, qa, qb, qc, qd, qe, qf, qg, qh, qi, qj, qk, reduceCtorEq, reduceIte, c2, c4, c6, c7]
      · obtain rfl := Option.some.inj h
        try simp only [go_sem, qa, qb, qc, qd, qe, qf, qg, qh, qi, qj, qk, reduceCtorEq, reduceIte, c2, c4, c6]
    · obtain rfl := Option.some.inj h
      try simp only [go_sem, qa, qb, qc, qd, qe, qf, qg, qh, qi, qj, qk, reduceCtorEq, reduceIte, c2, c4]
  · obtain rfl := Option.some.inj h
    try simp only [go_sem, qa, qb, qc, qd, qe, qf, qg, qh, qi, qj, qk, reduceCtorEq, reduceIte, c2]
theorem i_Instance_ok {p_0 : PatternD} {b_1 : (List PairD)} {r : (FactD × Bool)} (h : i_Instance p_0 b_1 = some r) : Sound Tryz.prog J0 31 [(true, ePattern p_0), (false, [.sl 119 2 (List.map ePair b_1)])] [(true, [(false, .str r.1.rel), (false, .sl 9 1 (List.map eStr r.1.args))]), (false, [(false, .bool r.2)])] := by
  refine fnk Tryz.func31 (by kernel_rfl) rfl (by kernel_rfl) (by kernel_rfl) ?_
  unfold i_Instance at h
  simp only [fnS, f31, argSt, go_sem, qa, qb, qc, qd, qe, qf, qg, qh, qi, qj, qk, reduceCtorEq, reduceIte]
  obtain ⟨v1, e1, h⟩ := bind_K h
  refine call_K (by first | exact i_IsPattern_ok e1 | simpa only [go_sem, qa, qb, qc, qd, qe, qf, qg, qh, qi, qj, qk, reduceCtorEq, reduceIte] using i_IsPattern_ok e1) ?_
  try simp only [go_sem, qa, qb, qc, qd, qe, qf, qg, qh, qi, qj, qk, reduceCtorEq, reduceIte]
  refine ite_K h (fun c2 h => ?_) (fun c2 h => ?_)
  · try simp only [go_sem, qa, qb, qc, qd, qe, qf, qg, qh, qi, qj, qk, reduceCtorEq, reduceIte, c2]
    obtain ⟨v2, e3, h⟩ := bind_K h
    refine call_K (by first | exact i_IsBinding_ok e3 | simpa only [go_sem, qa, qb, qc, qd, qe, qf, qg, qh, qi, qj, qk, reduceCtorEq, reduceIte, c2] using i_IsBinding_ok e3) ?_
    try simp only [go_sem, qa, qb, qc, qd, qe, qf, qg, qh, qi, qj, qk, reduceCtorEq, reduceIte, c2]
    refine ite_K h (fun c4 h => ?_) (fun c4 h => ?_)
    · try simp only [go_sem, qa, qb, qc, qd, qe, qf, qg, qh, qi, qj, qk, reduceCtorEq, reduceIte, c2, c4]
      refine swp_for h (fun i row_7 st => IV [(1, .p false [.c (.sl 119 2 (List.map ePair b_1))]), (4, .bp 0 0), (6, .bp 1 0), (24, .p false [.c (.sl 9 1 (List.map eStr p_0.args))]), (25, .p false [.c (.int .i64 ((p_0.args.length : Nat) : Int))]), (26, .p false [.c (.int .i64 ((i : Nat) : Int))])] [.box 57 [.c (.str ⟨#[]⟩), .nil 9 1], .box 57 [.c (.str p_0.rel), .row 2], .row 9 1 (List.map eStr row_7) 2] st) [(true, 224, 1)] [16, 224, 320] (by decide) ?_ ?_ ?_
      · simp only [go_sem, qa, qb, qc, qd, qe, qf, qg, qh, qi, qj, qk, reduceCtorEq, reduceIte, IV, sts_cons, sts_nil, obs_cons, obs_nil, c2, c4]
      · rintro i11 x12 row_7 ⟨sl, ob, n⟩ y5 hx6 hI7 hW8 h hy5
        simp only [IV, sts_cons, sts_nil, obs_cons, obs_nil, and_true, true_and, Nat.reduceAdd, str_len] at hI7
        obtain ⟨⟨g9_1, g9_4, g9_6, g9_24, g9_25, g9_26⟩, og9_0, og9_1, og9_2, hn⟩ := hI7
        subst hn
        have hlhx6 := WF.slotL hW8 g9_24 (j := 0) rfl
        try simp only [go_sem, qa, qb, qc, qd, qe, qf, qg, qh, qi, qj, qk, reduceCtorEq, reduceIte, c2, c4, hx6, lt_t hx6, lt_p hx6, nat_in (lt_n hx6) hlhx6, g9_1, g9_4, g9_6, g9_24, g9_25, g9_26, og9_0, og9_1, og9_2]
        obtain ⟨v13, e10, h⟩ := bind_K h
        refine call_K (by first | exact i_ValueOf_ok e10 | simpa only [go_sem, qa, qb, qc, qd, qe, qf, qg, qh, qi, qj, qk, reduceCtorEq, reduceIte, c2, c4, hx6, lt_t hx6, lt_p hx6, nat_in (lt_n hx6) hlhx6, g9_1, g9_4, g9_6, g9_24, g9_25, g9_26, og9_0, og9_1, og9_2] using i_ValueOf_ok e10) ?_
        try simp only [go_sem, qa, qb, qc, qd, qe, qf, qg, qh, qi, qj, qk, reduceCtorEq, reduceIte, c2, c4, hx6, lt_t hx6, lt_p hx6, nat_in (lt_n hx6) hlhx6, g9_1, g9_4, g9_6, g9_24, g9_25, g9_26, og9_0, og9_1, og9_2]
        refine ite_K h (fun c11 h => ?_) (fun c11 h => ?_)
        · obtain ⟨p12, h⟩ := chk_K h
          try simp only [Nat.reduceLeDiff] at p12
          try simp only [go_sem, qa, qb, qc, qd, qe, qf, qg, qh, qi, qj, qk, reduceCtorEq, reduceIte, c2, c4, hx6, lt_t hx6, lt_p hx6, nat_in (lt_n hx6) hlhx6, c11, p12, g9_1, g9_4, g9_6, g9_24, g9_25, g9_26, og9_0, og9_1, og9_2]
          refine ⟨_, [], [0, 1, 291], (Option.some.inj h).symm, by decide, ?_⟩
          try simp only [go_sem, qa, qb, qc, qd, qe, qf, qg, qh, qi, qj, qk, reduceCtorEq, reduceIte, c2, c4, hx6, lt_t hx6, lt_p hx6, nat_in (lt_n hx6) hlhx6, c11, p12, g9_1, g9_4, g9_6, g9_24, g9_25, g9_26, og9_0, og9_1, og9_2, IV, sts_cons, sts_nil, obs_cons, obs_nil]
        · replace h := inr_K h hy5
          obtain rfl := Option.some.inj h
          try simp only [go_sem, qa, qb, qc, qd, qe, qf, qg, qh, qi, qj, qk, reduceCtorEq, reduceIte, c2, c4, hx6, lt_t hx6, lt_p hx6, nat_in (lt_n hx6) hlhx6, c11, g9_1, g9_4, g9_6, g9_24, g9_25, g9_26, og9_0, og9_1, og9_2]
      · rintro row_7 ⟨sl, ob, n⟩ hI13 hW14 h
        simp only [IV, sts_cons, sts_nil, obs_cons, obs_nil, and_true, true_and, Nat.reduceAdd, str_len] at hI13
        obtain ⟨⟨g15_1, g15_4, g15_6, g15_24, g15_25, g15_26⟩, og15_0, og15_1, og15_2, hn⟩ := hI13
        subst hn
        obtain rfl := Option.some.inj h
        try simp only [go_sem, qa, qb, qc, qd, qe, qf, qg, qh, qi, qj, qk, reduceCtorEq, reduceIte, c2, c4, lt_f (p_0.args.length), g15_1, g15_4, g15_6, g15_24, g15_25, g15_26, og15_0, og15_1, og15_2]
    · obtain rfl := Option.some.inj h
      try simp only [go_sem, qa, qb, qc, qd, qe, qf, qg, qh, qi, qj, qk, reduceCtorEq, reduceIte, c2, c4]
  · obtain rfl := Option.some.inj h
    try simp only [go_sem, qa, qb, qc, qd, qe, qf, qg, qh, qi, qj, qk, reduceCtorEq, reduceIte, c2]
end Go.Proofs.YtlkgkkacnoaeaaaGreatDoor
