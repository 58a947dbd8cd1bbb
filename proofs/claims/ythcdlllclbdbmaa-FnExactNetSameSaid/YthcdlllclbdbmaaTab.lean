import Derived.Test.YthcdlllclbdbmaaAmX
import Derived.Test.YthcdlllclbdbmaaRows
namespace Go.Proofs.Ythcdlllclbdbmaa
open Go.AM
def ti2 : TI := { n := 1, zero := [.v (.int .i64 0)], bytes := 8, kind := some .i64 }
def ti3 : TI := { n := 1, zero := [.v (.int .i64 0)], bytes := 8, kind := some .i64 }
def ti4 : TI := { n := 1, zero := [.v (.bool false)], bytes := 1, boo := true }
def ti5 : TI := { n := 1, zero := [.v (.int .u8 0)], bytes := 1, kind := some .u8 }
def ti6 : TI := { n := 1, zero := [.v (.int .u8 0)], bytes := 1, kind := some .u8 }
def ti7 : TI := { agg := true, n := 4, zero := [.v (.int .i64 0), .v (.int .i64 0), .v (.bool false), .v (.int .u8 0)], fields := [(0, 1), (1, 1), (2, 1), (3, 1)], bytes := 24, pln := true }
def ti8 : TI := { agg := true, n := 4, zero := [.v (.int .i64 0), .v (.int .i64 0), .v (.bool false), .v (.int .u8 0)], fields := [(0, 1), (1, 1), (2, 1), (3, 1)], bytes := 24, pln := true }
def ti9 : TI := { n := 1, zero := [.v (.string ⟨#[]⟩)], bytes := 16, str := true }
def ti10 : TI := { n := 1, zero := [.v (.string ⟨#[]⟩)], bytes := 16, str := true }
def ti11 : TI := { n := 1, zero := [.v (.string ⟨#[]⟩)], bytes := 16, str := true }
def ti12 : TI := { n := 1, zero := [.v (.int .u64 0)], bytes := 8, kind := some .u64 }
def ti13 : TI := { agg := true, n := 2, zero := [.v (.string ⟨#[]⟩), .v (.int .u64 0)], fields := [(0, 1), (1, 1)], bytes := 24, pln := true }
def ti14 : TI := { agg := true, n := 2, zero := [.v (.string ⟨#[]⟩), .v (.int .u64 0)], fields := [(0, 1), (1, 1)], bytes := 24, pln := true }
def ti21 : TI := { n := 1, zero := [.v (.int .i32 0)], bytes := 4, kind := some .i32 }
def ti22 : TI := { n := 1, zero := [.nil], sl := some 5, bytes := 24, pln := false }
def ti31 : TI := { n := 1, zero := [.nil], sl := some 3, bytes := 24, pln := false }
def ti32 : TI := { n := 1, zero := [.nil], sl := some 106, bytes := 24, pln := false }
def ti33 : TI := { agg := true, n := 7, zero := [.v (.int .i64 0), .v (.int .i64 0), .v (.int .i64 0), .nil, .v (.bool false), .nil, .nil], fields := [(0, 1), (1, 1), (2, 1), (3, 1), (4, 1), (5, 1), (6, 1)], bytes := 104, pln := false }
def ti34 : TI := { agg := true, n := 7, zero := [.v (.int .i64 0), .v (.int .i64 0), .v (.int .i64 0), .nil, .v (.bool false), .nil, .nil], fields := [(0, 1), (1, 1), (2, 1), (3, 1), (4, 1), (5, 1), (6, 1)], bytes := 104, pln := false }
def ti37 : TI := { n := 1, zero := [.nil], sl := some 110, bytes := 24, pln := false }
def ti38 : TI := { agg := true, n := 7, zero := [.v (.int .i64 0), .v (.int .i64 0), .v (.int .i64 0), .nil, .v (.bool false), .nil, .nil], fields := [(0, 1), (1, 1), (2, 1), (3, 1), (4, 1), (5, 1), (6, 1)], bytes := 104, pln := false }
def ti39 : TI := { agg := true, n := 7, zero := [.v (.int .i64 0), .v (.int .i64 0), .v (.int .i64 0), .nil, .v (.bool false), .nil, .nil], fields := [(0, 1), (1, 1), (2, 1), (3, 1), (4, 1), (5, 1), (6, 1)], bytes := 104, pln := false }
def ti42 : TI := { agg := true, n := 7, zero := [.v (.int .i64 0), .v (.string ⟨#[]⟩), .v (.int .i64 0), .v (.int .i64 0), .v (.int .i64 0), .nil, .nil], fields := [(0, 1), (1, 1), (2, 1), (3, 1), (4, 1), (5, 1), (6, 1)], bytes := 96, pln := false }
def ti43 : TI := { agg := true, n := 7, zero := [.v (.int .i64 0), .v (.string ⟨#[]⟩), .v (.int .i64 0), .v (.int .i64 0), .v (.int .i64 0), .nil, .nil], fields := [(0, 1), (1, 1), (2, 1), (3, 1), (4, 1), (5, 1), (6, 1)], bytes := 96, pln := false }
def ti44 : TI := { n := 1, zero := [.nil], sl := some 167, bytes := 24, pln := false }
def ti45 : TI := { agg := true, n := 4, zero := [.v (.int .i64 0), .v (.int .i64 0), .nil, .nil], fields := [(0, 1), (1, 1), (2, 1), (3, 1)], bytes := 64, pln := false }
def ti46 : TI := { agg := true, n := 4, zero := [.v (.int .i64 0), .v (.int .i64 0), .nil, .nil], fields := [(0, 1), (1, 1), (2, 1), (3, 1)], bytes := 64, pln := false }
def ti47 : TI := { agg := true, n := 15, zero := [.v (.int .i64 0), .v (.string ⟨#[]⟩), .v (.int .i64 0), .v (.int .i64 0), .v (.int .i64 0), .nil, .nil, .v (.int .i64 0), .v (.int .i64 0), .v (.int .i64 0), .v (.int .i64 0), .v (.int .i64 0), .v (.int .i64 0), .nil, .nil], fields := [(0, 7), (7, 1), (8, 1), (9, 1), (10, 1), (11, 4)], bytes := 192, pln := false }
def ti48 : TI := { agg := true, n := 15, zero := [.v (.int .i64 0), .v (.string ⟨#[]⟩), .v (.int .i64 0), .v (.int .i64 0), .v (.int .i64 0), .nil, .nil, .v (.int .i64 0), .v (.int .i64 0), .v (.int .i64 0), .v (.int .i64 0), .v (.int .i64 0), .v (.int .i64 0), .nil, .nil], fields := [(0, 7), (7, 1), (8, 1), (9, 1), (10, 1), (11, 4)], bytes := 192, pln := false }
def ti51 : TI := { agg := true, n := 7, zero := [.v (.int .i64 0), .v (.string ⟨#[]⟩), .v (.int .i64 0), .v (.int .i64 0), .v (.int .i64 0), .nil, .nil], fields := [(0, 1), (1, 1), (2, 1), (3, 1), (4, 1), (5, 1), (6, 1)], bytes := 96, pln := false }
def ti52 : TI := { agg := true, n := 7, zero := [.v (.int .i64 0), .v (.string ⟨#[]⟩), .v (.int .i64 0), .v (.int .i64 0), .v (.int .i64 0), .nil, .nil], fields := [(0, 1), (1, 1), (2, 1), (3, 1), (4, 1), (5, 1), (6, 1)], bytes := 96, pln := false }
def ti53 : TI := { n := 1, zero := [.nil], sl := some 152, bytes := 24, pln := false }
def ti54 : TI := { agg := true, n := 4, zero := [.v (.int .i64 0), .v (.int .i64 0), .nil, .nil], fields := [(0, 1), (1, 1), (2, 1), (3, 1)], bytes := 64, pln := false }
def ti55 : TI := { agg := true, n := 4, zero := [.v (.int .i64 0), .v (.int .i64 0), .nil, .nil], fields := [(0, 1), (1, 1), (2, 1), (3, 1)], bytes := 64, pln := false }
def ti56 : TI := { agg := true, n := 15, zero := [.v (.int .i64 0), .v (.string ⟨#[]⟩), .v (.int .i64 0), .v (.int .i64 0), .v (.int .i64 0), .nil, .nil, .v (.int .i64 0), .v (.int .i64 0), .v (.int .i64 0), .v (.int .i64 0), .v (.int .i64 0), .v (.int .i64 0), .nil, .nil], fields := [(0, 7), (7, 1), (8, 1), (9, 1), (10, 1), (11, 4)], bytes := 192, pln := false }
def ti57 : TI := { agg := true, n := 15, zero := [.v (.int .i64 0), .v (.string ⟨#[]⟩), .v (.int .i64 0), .v (.int .i64 0), .v (.int .i64 0), .nil, .nil, .v (.int .i64 0), .v (.int .i64 0), .v (.int .i64 0), .v (.int .i64 0), .v (.int .i64 0), .v (.int .i64 0), .nil, .nil], fields := [(0, 7), (7, 1), (8, 1), (9, 1), (10, 1), (11, 4)], bytes := 192, pln := false }
def ti68 : TI := { n := 1, zero := [.nil], sl := some 173, bytes := 24, pln := false }
def ti69 : TI := { agg := true, n := 5, zero := [.v (.string ⟨#[]⟩), .v (.int .i64 0), .nil, .nil, .nil], fields := [(0, 1), (1, 1), (2, 1), (3, 1), (4, 1)], bytes := 96, pln := false }
def ti70 : TI := { agg := true, n := 5, zero := [.v (.string ⟨#[]⟩), .v (.int .i64 0), .nil, .nil, .nil], fields := [(0, 1), (1, 1), (2, 1), (3, 1), (4, 1)], bytes := 96, pln := false }
def ti71 : TI := { n := 1, zero := [.nil], sl := some 34, bytes := 24, pln := false }
def ti72 : TI := { agg := true, n := 6, zero := [.v (.string ⟨#[]⟩), .v (.int .i64 0), .nil, .nil, .nil, .nil], fields := [(0, 5), (5, 1)], bytes := 120, pln := false }
def ti73 : TI := { agg := true, n := 6, zero := [.v (.string ⟨#[]⟩), .v (.int .i64 0), .nil, .nil, .nil, .nil], fields := [(0, 5), (5, 1)], bytes := 120, pln := false }
def ti76 : TI := { n := 1, zero := [.nil], sl := some 155, bytes := 24, pln := false }
def ti77 : TI := { agg := true, n := 5, zero := [.v (.string ⟨#[]⟩), .v (.int .i64 0), .nil, .nil, .nil], fields := [(0, 1), (1, 1), (2, 1), (3, 1), (4, 1)], bytes := 96, pln := false }
def ti78 : TI := { agg := true, n := 5, zero := [.v (.string ⟨#[]⟩), .v (.int .i64 0), .nil, .nil, .nil], fields := [(0, 1), (1, 1), (2, 1), (3, 1), (4, 1)], bytes := 96, pln := false }
def ti79 : TI := { n := 1, zero := [.nil], sl := some 39, bytes := 24, pln := false }
def ti80 : TI := { agg := true, n := 6, zero := [.v (.string ⟨#[]⟩), .v (.int .i64 0), .nil, .nil, .nil, .nil], fields := [(0, 5), (5, 1)], bytes := 120, pln := false }
def ti81 : TI := { agg := true, n := 6, zero := [.v (.string ⟨#[]⟩), .v (.int .i64 0), .nil, .nil, .nil, .nil], fields := [(0, 5), (5, 1)], bytes := 120, pln := false }
def ti105 : TI := { agg := true, n := 3, zero := [.v (.int .i64 0), .v (.int .i64 0), .nil], fields := [(0, 1), (1, 1), (2, 1)], bytes := 40, pln := false }
def ti106 : TI := { agg := true, n := 3, zero := [.v (.int .i64 0), .v (.int .i64 0), .nil], fields := [(0, 1), (1, 1), (2, 1)], bytes := 40, pln := false }
def ti110 : TI := { agg := true, n := 3, zero := [.v (.int .i64 0), .v (.int .i64 0), .nil], fields := [(0, 1), (1, 1), (2, 1)], bytes := 40, pln := false }
def ti127 : TI := { agg := true, n := 3, zero := [.nil, .v (.int .i64 0), .v (.bool false)], fields := [(0, 1), (1, 1), (2, 1)], bytes := 40, pln := false }
def ti128 : TI := { agg := true, n := 3, zero := [.nil, .v (.int .i64 0), .v (.bool false)], fields := [(0, 1), (1, 1), (2, 1)], bytes := 40, pln := false }
def ti131 : TI := { agg := true, n := 3, zero := [.nil, .v (.int .i64 0), .v (.bool false)], fields := [(0, 1), (1, 1), (2, 1)], bytes := 40, pln := false }
def ti132 : TI := { agg := true, n := 3, zero := [.nil, .v (.int .i64 0), .v (.bool false)], fields := [(0, 1), (1, 1), (2, 1)], bytes := 40, pln := false }
def ti136 : TI := { n := 1, zero := [.nil], sl := some 37, bytes := 24, pln := false }
def ti143 : TI := { agg := true, n := 3, zero := [.nil, .nil, .v (.int .i64 0)], fields := [(0, 1), (1, 1), (2, 1)], bytes := 56, pln := false }
def ti144 : TI := { agg := true, n := 3, zero := [.nil, .nil, .v (.int .i64 0)], fields := [(0, 1), (1, 1), (2, 1)], bytes := 56, pln := false }
def ti151 : TI := { agg := true, n := 3, zero := [.v (.int .i64 0), .v (.int .i64 0), .nil], fields := [(0, 1), (1, 1), (2, 1)], bytes := 40, pln := false }
def ti152 : TI := { agg := true, n := 3, zero := [.v (.int .i64 0), .v (.int .i64 0), .nil], fields := [(0, 1), (1, 1), (2, 1)], bytes := 40, pln := false }
def ti154 : TI := { agg := true, n := 3, zero := [.v (.int .i64 0), .v (.int .i64 0), .v (.int .i64 0)], fields := [(0, 1), (1, 1), (2, 1)], bytes := 24, pln := true, ieq := true }
def ti155 : TI := { agg := true, n := 3, zero := [.v (.int .i64 0), .v (.int .i64 0), .v (.int .i64 0)], fields := [(0, 1), (1, 1), (2, 1)], bytes := 24, pln := true, ieq := true }
def ti166 : TI := { agg := true, n := 3, zero := [.v (.int .i64 0), .v (.int .i64 0), .nil], fields := [(0, 1), (1, 1), (2, 1)], bytes := 40, pln := false }
def ti167 : TI := { agg := true, n := 3, zero := [.v (.int .i64 0), .v (.int .i64 0), .nil], fields := [(0, 1), (1, 1), (2, 1)], bytes := 40, pln := false }
def ti173 : TI := { agg := true, n := 3, zero := [.v (.int .i64 0), .v (.int .i64 0), .v (.int .i64 0)], fields := [(0, 1), (1, 1), (2, 1)], bytes := 24, pln := true, ieq := true }
def ti182 : TI := { n := 1, zero := [.v (.int .u32 0)], bytes := 4, kind := some .u32 }
def ti183 : TI := { n := 1, zero := [.v (.int .u8 0)], bytes := 1, kind := some .u8 }
def ti184 : TI := { n := 1, zero := [.v (.int .u8 0)], bytes := 1, kind := some .u8 }
def ti187 : TI := { n := 1, zero := [.v (.int .i32 0)], bytes := 4, kind := some .i32 }
def ti188 : TI := { n := 1, zero := [.v (.int .i32 0)], bytes := 4, kind := some .i32 }
def ttab : List (Nat × TI) := [(2, ti2), (3, ti3), (4, ti4), (5, ti5), (6, ti6), (7, ti7), (8, ti8), (9, ti9), (10, ti10), (11, ti11), (12, ti12), (13, ti13), (14, ti14), (21, ti21), (22, ti22), (31, ti31), (32, ti32), (33, ti33), (34, ti34), (37, ti37), (38, ti38), (39, ti39), (42, ti42), (43, ti43), (44, ti44), (45, ti45), (46, ti46), (47, ti47), (48, ti48), (51, ti51), (52, ti52), (53, ti53), (54, ti54), (55, ti55), (56, ti56), (57, ti57), (68, ti68), (69, ti69), (70, ti70), (71, ti71), (72, ti72), (73, ti73), (76, ti76), (77, ti77), (78, ti78), (79, ti79), (80, ti80), (81, ti81), (105, ti105), (106, ti106), (110, ti110), (127, ti127), (128, ti128), (131, ti131), (132, ti132), (136, ti136), (143, ti143), (144, ti144), (151, ti151), (152, ti152), (154, ti154), (155, ti155), (166, ti166), (167, ti167), (173, ti173), (182, ti182), (183, ti183), (184, ti184), (187, ti187), (188, ti188)]
def tt : Nat → Option TI := lookT ttab
theorem tt_2 : tt 2 = some ti2 := rfl
theorem tt_3 : tt 3 = some ti3 := rfl
theorem tt_4 : tt 4 = some ti4 := rfl
theorem tt_5 : tt 5 = some ti5 := rfl
theorem tt_6 : tt 6 = some ti6 := rfl
theorem tt_7 : tt 7 = some ti7 := rfl
theorem tt_8 : tt 8 = some ti8 := rfl
theorem tt_9 : tt 9 = some ti9 := rfl
theorem tt_10 : tt 10 = some ti10 := rfl
theorem tt_11 : tt 11 = some ti11 := rfl
theorem tt_12 : tt 12 = some ti12 := rfl
theorem tt_13 : tt 13 = some ti13 := rfl
theorem tt_14 : tt 14 = some ti14 := rfl
theorem tt_21 : tt 21 = some ti21 := rfl
theorem tt_22 : tt 22 = some ti22 := rfl
theorem tt_31 : tt 31 = some ti31 := rfl
theorem tt_32 : tt 32 = some ti32 := rfl
theorem tt_33 : tt 33 = some ti33 := rfl
theorem tt_34 : tt 34 = some ti34 := rfl
theorem tt_37 : tt 37 = some ti37 := rfl
theorem tt_38 : tt 38 = some ti38 := rfl
theorem tt_39 : tt 39 = some ti39 := rfl
theorem tt_42 : tt 42 = some ti42 := rfl
theorem tt_43 : tt 43 = some ti43 := rfl
theorem tt_44 : tt 44 = some ti44 := rfl
theorem tt_45 : tt 45 = some ti45 := rfl
theorem tt_46 : tt 46 = some ti46 := rfl
theorem tt_47 : tt 47 = some ti47 := rfl
theorem tt_48 : tt 48 = some ti48 := rfl
theorem tt_51 : tt 51 = some ti51 := rfl
theorem tt_52 : tt 52 = some ti52 := rfl
theorem tt_53 : tt 53 = some ti53 := rfl
theorem tt_54 : tt 54 = some ti54 := rfl
theorem tt_55 : tt 55 = some ti55 := rfl
theorem tt_56 : tt 56 = some ti56 := rfl
theorem tt_57 : tt 57 = some ti57 := rfl
theorem tt_68 : tt 68 = some ti68 := rfl
theorem tt_69 : tt 69 = some ti69 := rfl
theorem tt_70 : tt 70 = some ti70 := rfl
theorem tt_71 : tt 71 = some ti71 := rfl
theorem tt_72 : tt 72 = some ti72 := rfl
theorem tt_73 : tt 73 = some ti73 := rfl
theorem tt_76 : tt 76 = some ti76 := rfl
theorem tt_77 : tt 77 = some ti77 := rfl
theorem tt_78 : tt 78 = some ti78 := rfl
theorem tt_79 : tt 79 = some ti79 := rfl
theorem tt_80 : tt 80 = some ti80 := rfl
theorem tt_81 : tt 81 = some ti81 := rfl
theorem tt_105 : tt 105 = some ti105 := rfl
theorem tt_106 : tt 106 = some ti106 := rfl
theorem tt_110 : tt 110 = some ti110 := rfl
theorem tt_127 : tt 127 = some ti127 := rfl
theorem tt_128 : tt 128 = some ti128 := rfl
theorem tt_131 : tt 131 = some ti131 := rfl
theorem tt_132 : tt 132 = some ti132 := rfl
theorem tt_136 : tt 136 = some ti136 := rfl
theorem tt_143 : tt 143 = some ti143 := rfl
theorem tt_144 : tt 144 = some ti144 := rfl
theorem tt_151 : tt 151 = some ti151 := rfl
theorem tt_152 : tt 152 = some ti152 := rfl
theorem tt_154 : tt 154 = some ti154 := rfl
theorem tt_155 : tt 155 = some ti155 := rfl
theorem tt_166 : tt 166 = some ti166 := rfl
theorem tt_167 : tt 167 = some ti167 := rfl
theorem tt_173 : tt 173 = some ti173 := rfl
theorem tt_182 : tt 182 = some ti182 := rfl
theorem tt_183 : tt 183 = some ti183 := rfl
theorem tt_184 : tt 184 = some ti184 := rfl
theorem tt_187 : tt 187 = some ti187 := rfl
theorem tt_188 : tt 188 = some ti188 := rfl
theorem ttab_ok : (ttab.all fun p => tiCheck Try.prog p.1 p.2) = true := by kernel_rfl
theorem tt_ok : ∀ t ti, tt t = some ti → TIok Try.prog t ti := table_ok ttab_ok
theorem eok {w0 : World} {base : Bs} : EOk ⟨Try.prog, tt, w0, base⟩ := tt_ok
attribute [simp] ti2 ti3 ti4 ti5 ti6 ti7 ti8 ti9 ti10 ti11 ti12 ti13 ti14 ti21 ti22 ti31 ti32 ti33 ti34 ti37 ti38 ti39 ti42 ti43 ti44 ti45 ti46 ti47 ti48 ti51 ti52 ti53 ti54 ti55 ti56 ti57 ti68 ti69 ti70 ti71 ti72 ti73 ti76 ti77 ti78 ti79 ti80 ti81 ti105 ti106 ti110 ti127 ti128 ti131 ti132 ti136 ti143 ti144 ti151 ti152 ti154 ti155 ti166 ti167 ti173 ti182 ti183 ti184 ti187 ti188 tt_2 tt_3 tt_4 tt_5 tt_6 tt_7 tt_8 tt_9 tt_10 tt_11 tt_12 tt_13 tt_14 tt_21 tt_22 tt_31 tt_32 tt_33 tt_34 tt_37 tt_38 tt_39 tt_42 tt_43 tt_44 tt_45 tt_46 tt_47 tt_48 tt_51 tt_52 tt_53 tt_54 tt_55 tt_56 tt_57 tt_68 tt_69 tt_70 tt_71 tt_72 tt_73 tt_76 tt_77 tt_78 tt_79 tt_80 tt_81 tt_105 tt_106 tt_110 tt_127 tt_128 tt_131 tt_132 tt_136 tt_143 tt_144 tt_151 tt_152 tt_154 tt_155 tt_166 tt_167 tt_173 tt_182 tt_183 tt_184 tt_187 tt_188
end Go.Proofs.Ythcdlllclbdbmaa
