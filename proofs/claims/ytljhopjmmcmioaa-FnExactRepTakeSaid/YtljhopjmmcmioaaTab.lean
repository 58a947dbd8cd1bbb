import Derived.Test.YtljhopjmmcmioaaME
import Derived.Test.YtljhopjmmcmioaaRows
namespace Go.Proofs.Ytljhopjmmcmioaa
open Go.AM
def ti2 : TI := { n := 1, zero := [.v (.int .i64 0)], bytes := 8, kind := some .i64 }
def ti3 : TI := { n := 1, zero := [.v (.int .i64 0)], bytes := 8, kind := some .i64 }
def ti4 : TI := { n := 1, zero := [.v (.bool false)], bytes := 1, boo := true }
def ti5 : TI := { n := 1, zero := [.v (.int .u8 0)], bytes := 1, kind := some .u8 }
def ti6 : TI := { n := 1, zero := [.v (.int .u8 0)], bytes := 1, kind := some .u8 }
def ti7 : TI := { agg := true, n := 4, zero := [.v (.int .i64 0), .v (.int .i64 0), .v (.bool false), .v (.int .u8 0)], fields := [(0, 1), (1, 1), (2, 1), (3, 1)], fagg := [false, false, false, false], bytes := 24, pln := true }
def ti8 : TI := { agg := true, n := 4, zero := [.v (.int .i64 0), .v (.int .i64 0), .v (.bool false), .v (.int .u8 0)], fields := [(0, 1), (1, 1), (2, 1), (3, 1)], fagg := [false, false, false, false], bytes := 24, pln := true }
def ti9 : TI := { n := 1, zero := [.v (.string ⟨#[]⟩)], bytes := 16, str := true }
def ti10 : TI := { n := 1, zero := [.v (.string ⟨#[]⟩)], bytes := 16, str := true }
def ti11 : TI := { n := 1, zero := [.v (.string ⟨#[]⟩)], bytes := 16, str := true }
def ti12 : TI := { n := 1, zero := [.v (.int .u64 0)], bytes := 8, kind := some .u64 }
def ti13 : TI := { agg := true, n := 2, zero := [.v (.string ⟨#[]⟩), .v (.int .u64 0)], fields := [(0, 1), (1, 1)], fagg := [false, false], bytes := 24, pln := true }
def ti14 : TI := { agg := true, n := 2, zero := [.v (.string ⟨#[]⟩), .v (.int .u64 0)], fields := [(0, 1), (1, 1)], fagg := [false, false], bytes := 24, pln := true }
def ti21 : TI := { n := 1, zero := [.v (.int .i32 0)], bytes := 4, kind := some .i32 }
def ti22 : TI := { n := 1, zero := [.nil], sl := some 3, bytes := 24, pln := false }
def ti23 : TI := { n := 1, zero := [.nil], sl := some 126, bytes := 24, pln := false }
def ti24 : TI := { agg := true, n := 7, zero := [.v (.int .i64 0), .v (.int .i64 0), .v (.int .i64 0), .nil, .v (.bool false), .nil, .nil], fields := [(0, 1), (1, 1), (2, 1), (3, 1), (4, 1), (5, 1), (6, 1)], fagg := [false, false, false, false, false, false, false], bytes := 104, pln := false }
def ti25 : TI := { agg := true, n := 7, zero := [.v (.int .i64 0), .v (.int .i64 0), .v (.int .i64 0), .nil, .v (.bool false), .nil, .nil], fields := [(0, 1), (1, 1), (2, 1), (3, 1), (4, 1), (5, 1), (6, 1)], fagg := [false, false, false, false, false, false, false], bytes := 104, pln := false }
def ti27 : TI := { n := 1, zero := [.nil], sl := some 130, bytes := 24, pln := false }
def ti28 : TI := { agg := true, n := 7, zero := [.v (.int .i64 0), .v (.int .i64 0), .v (.int .i64 0), .nil, .v (.bool false), .nil, .nil], fields := [(0, 1), (1, 1), (2, 1), (3, 1), (4, 1), (5, 1), (6, 1)], fagg := [false, false, false, false, false, false, false], bytes := 104, pln := false }
def ti29 : TI := { agg := true, n := 7, zero := [.v (.int .i64 0), .v (.int .i64 0), .v (.int .i64 0), .nil, .v (.bool false), .nil, .nil], fields := [(0, 1), (1, 1), (2, 1), (3, 1), (4, 1), (5, 1), (6, 1)], fagg := [false, false, false, false, false, false, false], bytes := 104, pln := false }
def ti30 : TI := { agg := true, n := 7, zero := [.v (.int .i64 0), .v (.string ⟨#[]⟩), .v (.int .i64 0), .v (.int .i64 0), .v (.int .i64 0), .nil, .nil], fields := [(0, 1), (1, 1), (2, 1), (3, 1), (4, 1), (5, 1), (6, 1)], fagg := [false, false, false, false, false, false, false], bytes := 96, pln := false }
def ti31 : TI := { agg := true, n := 7, zero := [.v (.int .i64 0), .v (.string ⟨#[]⟩), .v (.int .i64 0), .v (.int .i64 0), .v (.int .i64 0), .nil, .nil], fields := [(0, 1), (1, 1), (2, 1), (3, 1), (4, 1), (5, 1), (6, 1)], fagg := [false, false, false, false, false, false, false], bytes := 96, pln := false }
def ti40 : TI := { n := 1, zero := [.nil], sl := some 67, bytes := 24, pln := false }
def ti41 : TI := { n := 1, zero := [.nil], sl := some 216, bytes := 24, pln := false }
def ti42 : TI := { agg := true, n := 5, zero := [.v (.string ⟨#[]⟩), .v (.int .i64 0), .nil, .nil, .nil], fields := [(0, 1), (1, 1), (2, 1), (3, 1), (4, 1)], fagg := [false, false, false, false, false], bytes := 96, pln := false }
def ti43 : TI := { agg := true, n := 5, zero := [.v (.string ⟨#[]⟩), .v (.int .i64 0), .nil, .nil, .nil], fields := [(0, 1), (1, 1), (2, 1), (3, 1), (4, 1)], fagg := [false, false, false, false, false], bytes := 96, pln := false }
def ti44 : TI := { n := 1, zero := [.nil], sl := some 25, bytes := 24, pln := false }
def ti45 : TI := { agg := true, n := 6, zero := [.v (.string ⟨#[]⟩), .v (.int .i64 0), .nil, .nil, .nil, .nil], fields := [(0, 5), (5, 1)], fagg := [true, false], bytes := 120, pln := false }
def ti46 : TI := { agg := true, n := 6, zero := [.v (.string ⟨#[]⟩), .v (.int .i64 0), .nil, .nil, .nil, .nil], fields := [(0, 5), (5, 1)], fagg := [true, false], bytes := 120, pln := false }
def ti49 : TI := { n := 1, zero := [.nil], sl := some 71, bytes := 24, pln := false }
def ti50 : TI := { n := 1, zero := [.nil], sl := some 147, bytes := 24, pln := false }
def ti51 : TI := { agg := true, n := 5, zero := [.v (.string ⟨#[]⟩), .v (.int .i64 0), .nil, .nil, .nil], fields := [(0, 1), (1, 1), (2, 1), (3, 1), (4, 1)], fagg := [false, false, false, false, false], bytes := 96, pln := false }
def ti52 : TI := { agg := true, n := 5, zero := [.v (.string ⟨#[]⟩), .v (.int .i64 0), .nil, .nil, .nil], fields := [(0, 1), (1, 1), (2, 1), (3, 1), (4, 1)], fagg := [false, false, false, false, false], bytes := 96, pln := false }
def ti53 : TI := { n := 1, zero := [.nil], sl := some 29, bytes := 24, pln := false }
def ti54 : TI := { agg := true, n := 6, zero := [.v (.string ⟨#[]⟩), .v (.int .i64 0), .nil, .nil, .nil, .nil], fields := [(0, 5), (5, 1)], fagg := [true, false], bytes := 120, pln := false }
def ti55 : TI := { agg := true, n := 6, zero := [.v (.string ⟨#[]⟩), .v (.int .i64 0), .nil, .nil, .nil, .nil], fields := [(0, 5), (5, 1)], fagg := [true, false], bytes := 120, pln := false }
def ti66 : TI := { agg := true, n := 3, zero := [.v (.int .i64 0), .v (.int .i64 0), .nil], fields := [(0, 1), (1, 1), (2, 1)], fagg := [false, false, false], bytes := 40, pln := false }
def ti67 : TI := { agg := true, n := 3, zero := [.v (.int .i64 0), .v (.int .i64 0), .nil], fields := [(0, 1), (1, 1), (2, 1)], fagg := [false, false, false], bytes := 40, pln := false }
def ti70 : TI := { agg := true, n := 3, zero := [.v (.int .i64 0), .v (.int .i64 0), .nil], fields := [(0, 1), (1, 1), (2, 1)], fagg := [false, false, false], bytes := 40, pln := false }
def ti71 : TI := { agg := true, n := 3, zero := [.v (.int .i64 0), .v (.int .i64 0), .nil], fields := [(0, 1), (1, 1), (2, 1)], fagg := [false, false, false], bytes := 40, pln := false }
def ti89 : TI := { n := 1, zero := [.nil], sl := some 43, bytes := 24, pln := false }
def ti90 : TI := { n := 1, zero := [.nil], sl := some 223, bytes := 24, pln := false }
def ti91 : TI := { agg := true, n := 4, zero := [.v (.bool false), .nil, .nil, .v (.int .i64 0)], fields := [(0, 1), (1, 1), (2, 1), (3, 1)], fagg := [false, false, false, false], bytes := 64, pln := false }
def ti92 : TI := { agg := true, n := 4, zero := [.v (.bool false), .nil, .nil, .v (.int .i64 0)], fields := [(0, 1), (1, 1), (2, 1), (3, 1)], fagg := [false, false, false, false], bytes := 64, pln := false }
def ti93 : TI := { n := 1, zero := [.nil], sl := some 198, bytes := 24, pln := false }
def ti94 : TI := { n := 1, zero := [.nil], sl := some 205, bytes := 24, pln := false }
def ti95 : TI := { agg := true, n := 8, zero := [.v (.bool false), .nil, .nil, .v (.int .i64 0), .nil, .nil, .nil, .v (.int .i64 0)], fields := [(0, 4), (4, 1), (5, 1), (6, 1), (7, 1)], fagg := [true, false, false, false, false], bytes := 144, pln := false }
def ti96 : TI := { agg := true, n := 8, zero := [.v (.bool false), .nil, .nil, .v (.int .i64 0), .nil, .nil, .nil, .v (.int .i64 0)], fields := [(0, 4), (4, 1), (5, 1), (6, 1), (7, 1)], fagg := [true, false, false, false, false], bytes := 144, pln := false }
def ti99 : TI := { n := 1, zero := [.nil], sl := some 52, bytes := 24, pln := false }
def ti100 : TI := { n := 1, zero := [.nil], sl := some 229, bytes := 24, pln := false }
def ti101 : TI := { agg := true, n := 4, zero := [.v (.bool false), .nil, .nil, .v (.int .i64 0)], fields := [(0, 1), (1, 1), (2, 1), (3, 1)], fagg := [false, false, false, false], bytes := 64, pln := false }
def ti102 : TI := { agg := true, n := 4, zero := [.v (.bool false), .nil, .nil, .v (.int .i64 0)], fields := [(0, 1), (1, 1), (2, 1), (3, 1)], fagg := [false, false, false, false], bytes := 64, pln := false }
def ti103 : TI := { n := 1, zero := [.nil], sl := some 208, bytes := 24, pln := false }
def ti104 : TI := { n := 1, zero := [.nil], sl := some 156, bytes := 24, pln := false }
def ti105 : TI := { agg := true, n := 8, zero := [.v (.bool false), .nil, .nil, .v (.int .i64 0), .nil, .nil, .nil, .v (.int .i64 0)], fields := [(0, 4), (4, 1), (5, 1), (6, 1), (7, 1)], fagg := [true, false, false, false, false], bytes := 144, pln := false }
def ti106 : TI := { agg := true, n := 8, zero := [.v (.bool false), .nil, .nil, .v (.int .i64 0), .nil, .nil, .nil, .v (.int .i64 0)], fields := [(0, 4), (4, 1), (5, 1), (6, 1), (7, 1)], fagg := [true, false, false, false, false], bytes := 144, pln := false }
def ti125 : TI := { agg := true, n := 3, zero := [.v (.int .i64 0), .v (.int .i64 0), .nil], fields := [(0, 1), (1, 1), (2, 1)], fagg := [false, false, false], bytes := 40, pln := false }
def ti126 : TI := { agg := true, n := 3, zero := [.v (.int .i64 0), .v (.int .i64 0), .nil], fields := [(0, 1), (1, 1), (2, 1)], fagg := [false, false, false], bytes := 40, pln := false }
def ti130 : TI := { agg := true, n := 3, zero := [.v (.int .i64 0), .v (.int .i64 0), .nil], fields := [(0, 1), (1, 1), (2, 1)], fagg := [false, false, false], bytes := 40, pln := false }
def ti146 : TI := { agg := true, n := 3, zero := [.v (.int .i64 0), .v (.int .i64 0), .v (.int .i64 0)], fields := [(0, 1), (1, 1), (2, 1)], fagg := [false, false, false], bytes := 24, pln := true, ieq := true }
def ti147 : TI := { agg := true, n := 3, zero := [.v (.int .i64 0), .v (.int .i64 0), .v (.int .i64 0)], fields := [(0, 1), (1, 1), (2, 1)], fagg := [false, false, false], bytes := 24, pln := true, ieq := true }
def ti153 : TI := { agg := true, n := 4, zero := [.v (.int .i64 0), .v (.int .i64 0), .nil, .nil], fields := [(0, 1), (1, 1), (2, 1), (3, 1)], fagg := [false, false, false, false], bytes := 64, pln := false }
def ti154 : TI := { agg := true, n := 4, zero := [.v (.int .i64 0), .v (.int .i64 0), .nil, .nil], fields := [(0, 1), (1, 1), (2, 1), (3, 1)], fagg := [false, false, false, false], bytes := 64, pln := false }
def ti155 : TI := { agg := true, n := 15, zero := [.v (.int .i64 0), .v (.string ⟨#[]⟩), .v (.int .i64 0), .v (.int .i64 0), .v (.int .i64 0), .nil, .nil, .v (.int .i64 0), .v (.int .i64 0), .v (.int .i64 0), .v (.int .i64 0), .v (.int .i64 0), .v (.int .i64 0), .nil, .nil], fields := [(0, 7), (7, 1), (8, 1), (9, 1), (10, 1), (11, 4)], fagg := [true, false, false, false, false, true], bytes := 192, pln := false }
def ti156 : TI := { agg := true, n := 15, zero := [.v (.int .i64 0), .v (.string ⟨#[]⟩), .v (.int .i64 0), .v (.int .i64 0), .v (.int .i64 0), .nil, .nil, .v (.int .i64 0), .v (.int .i64 0), .v (.int .i64 0), .v (.int .i64 0), .v (.int .i64 0), .v (.int .i64 0), .nil, .nil], fields := [(0, 7), (7, 1), (8, 1), (9, 1), (10, 1), (11, 4)], fagg := [true, false, false, false, false, true], bytes := 192, pln := false }
def ti170 : TI := { agg := true, n := 3, zero := [.nil, .v (.int .i64 0), .v (.int .i64 0)], fields := [(0, 1), (1, 1), (2, 1)], fagg := [false, false, false], bytes := 40, pln := false }
def ti171 : TI := { agg := true, n := 3, zero := [.nil, .v (.int .i64 0), .v (.int .i64 0)], fields := [(0, 1), (1, 1), (2, 1)], fagg := [false, false, false], bytes := 40, pln := false }
def ti173 : TI := { agg := true, n := 3, zero := [.nil, .nil, .v (.int .i64 0)], fields := [(0, 1), (1, 1), (2, 1)], fagg := [false, false, false], bytes := 56, pln := false }
def ti174 : TI := { agg := true, n := 3, zero := [.nil, .nil, .v (.int .i64 0)], fields := [(0, 1), (1, 1), (2, 1)], fagg := [false, false, false], bytes := 56, pln := false }
def ti182 : TI := { agg := true, n := 1, zero := [.nil], fields := [(0, 1)], fagg := [false], bytes := 24, pln := false }
def ti183 : TI := { agg := true, n := 1, zero := [.nil], fields := [(0, 1)], fagg := [false], bytes := 24, pln := false }
def ti192 : TI := { n := 1, zero := [.nil], sl := some 27, bytes := 24, pln := false }
def ti197 : TI := { agg := true, n := 2, zero := [.v (.string ⟨#[]⟩), .nil], fields := [(0, 1), (1, 1)], fagg := [false, false], bytes := 40, pln := false }
def ti198 : TI := { agg := true, n := 2, zero := [.v (.string ⟨#[]⟩), .nil], fields := [(0, 1), (1, 1)], fagg := [false, false], bytes := 40, pln := false }
def ti200 : TI := { agg := true, n := 7, zero := [.v (.int .i64 0), .v (.string ⟨#[]⟩), .v (.int .i64 0), .v (.int .i64 0), .v (.int .i64 0), .nil, .nil], fields := [(0, 1), (1, 1), (2, 1), (3, 1), (4, 1), (5, 1), (6, 1)], fagg := [false, false, false, false, false, false, false], bytes := 96, pln := false }
def ti201 : TI := { agg := true, n := 7, zero := [.v (.int .i64 0), .v (.string ⟨#[]⟩), .v (.int .i64 0), .v (.int .i64 0), .v (.int .i64 0), .nil, .nil], fields := [(0, 1), (1, 1), (2, 1), (3, 1), (4, 1), (5, 1), (6, 1)], fagg := [false, false, false, false, false, false, false], bytes := 96, pln := false }
def ti202 : TI := { agg := true, n := 4, zero := [.v (.int .i64 0), .v (.int .i64 0), .nil, .nil], fields := [(0, 1), (1, 1), (2, 1), (3, 1)], fagg := [false, false, false, false], bytes := 64, pln := false }
def ti203 : TI := { agg := true, n := 4, zero := [.v (.int .i64 0), .v (.int .i64 0), .nil, .nil], fields := [(0, 1), (1, 1), (2, 1), (3, 1)], fagg := [false, false, false, false], bytes := 64, pln := false }
def ti204 : TI := { agg := true, n := 15, zero := [.v (.int .i64 0), .v (.string ⟨#[]⟩), .v (.int .i64 0), .v (.int .i64 0), .v (.int .i64 0), .nil, .nil, .v (.int .i64 0), .v (.int .i64 0), .v (.int .i64 0), .v (.int .i64 0), .v (.int .i64 0), .v (.int .i64 0), .nil, .nil], fields := [(0, 7), (7, 1), (8, 1), (9, 1), (10, 1), (11, 4)], fagg := [true, false, false, false, false, true], bytes := 192, pln := false }
def ti205 : TI := { agg := true, n := 15, zero := [.v (.int .i64 0), .v (.string ⟨#[]⟩), .v (.int .i64 0), .v (.int .i64 0), .v (.int .i64 0), .nil, .nil, .v (.int .i64 0), .v (.int .i64 0), .v (.int .i64 0), .v (.int .i64 0), .v (.int .i64 0), .v (.int .i64 0), .nil, .nil], fields := [(0, 7), (7, 1), (8, 1), (9, 1), (10, 1), (11, 4)], fagg := [true, false, false, false, false, true], bytes := 192, pln := false }
def ti208 : TI := { agg := true, n := 2, zero := [.v (.string ⟨#[]⟩), .nil], fields := [(0, 1), (1, 1)], fagg := [false, false], bytes := 40, pln := false }
def ti216 : TI := { agg := true, n := 3, zero := [.v (.int .i64 0), .v (.int .i64 0), .v (.int .i64 0)], fields := [(0, 1), (1, 1), (2, 1)], fagg := [false, false, false], bytes := 24, pln := true, ieq := true }
def ti220 : TI := { agg := true, n := 4, zero := [.v (.int .i64 0), .v (.int .i64 0), .v (.bool false), .nil], fields := [(0, 1), (1, 1), (2, 1), (3, 1)], fagg := [false, false, false, false], bytes := 48, pln := false }
def ti221 : TI := { agg := true, n := 4, zero := [.v (.int .i64 0), .v (.int .i64 0), .v (.bool false), .nil], fields := [(0, 1), (1, 1), (2, 1), (3, 1)], fagg := [false, false, false, false], bytes := 48, pln := false }
def ti222 : TI := { agg := true, n := 6, zero := [.v (.int .i64 0), .v (.string ⟨#[]⟩), .v (.int .i64 0), .v (.int .i64 0), .v (.bool false), .nil], fields := [(0, 1), (1, 1), (2, 4)], fagg := [false, false, true], bytes := 72, pln := false }
def ti223 : TI := { agg := true, n := 6, zero := [.v (.int .i64 0), .v (.string ⟨#[]⟩), .v (.int .i64 0), .v (.int .i64 0), .v (.bool false), .nil], fields := [(0, 1), (1, 1), (2, 4)], fagg := [false, false, true], bytes := 72, pln := false }
def ti226 : TI := { agg := true, n := 4, zero := [.v (.int .i64 0), .v (.int .i64 0), .v (.bool false), .nil], fields := [(0, 1), (1, 1), (2, 1), (3, 1)], fagg := [false, false, false, false], bytes := 48, pln := false }
def ti227 : TI := { agg := true, n := 4, zero := [.v (.int .i64 0), .v (.int .i64 0), .v (.bool false), .nil], fields := [(0, 1), (1, 1), (2, 1), (3, 1)], fagg := [false, false, false, false], bytes := 48, pln := false }
def ti228 : TI := { agg := true, n := 6, zero := [.v (.int .i64 0), .v (.string ⟨#[]⟩), .v (.int .i64 0), .v (.int .i64 0), .v (.bool false), .nil], fields := [(0, 1), (1, 1), (2, 4)], fagg := [false, false, true], bytes := 72, pln := false }
def ti229 : TI := { agg := true, n := 6, zero := [.v (.int .i64 0), .v (.string ⟨#[]⟩), .v (.int .i64 0), .v (.int .i64 0), .v (.bool false), .nil], fields := [(0, 1), (1, 1), (2, 4)], fagg := [false, false, true], bytes := 72, pln := false }
def ti247 : TI := { n := 1, zero := [.v (.int .u32 0)], bytes := 4, kind := some .u32 }
def ti248 : TI := { n := 1, zero := [.v (.int .u8 0)], bytes := 1, kind := some .u8 }
def ti249 : TI := { n := 1, zero := [.v (.int .u8 0)], bytes := 1, kind := some .u8 }
def ti252 : TI := { n := 1, zero := [.v (.int .i32 0)], bytes := 4, kind := some .i32 }
def ti253 : TI := { n := 1, zero := [.v (.int .i32 0)], bytes := 4, kind := some .i32 }
def ttab : List (Nat × TI) := [(2, ti2), (3, ti3), (4, ti4), (5, ti5), (6, ti6), (7, ti7), (8, ti8), (9, ti9), (10, ti10), (11, ti11), (12, ti12), (13, ti13), (14, ti14), (21, ti21), (22, ti22), (23, ti23), (24, ti24), (25, ti25), (27, ti27), (28, ti28), (29, ti29), (30, ti30), (31, ti31), (40, ti40), (41, ti41), (42, ti42), (43, ti43), (44, ti44), (45, ti45), (46, ti46), (49, ti49), (50, ti50), (51, ti51), (52, ti52), (53, ti53), (54, ti54), (55, ti55), (66, ti66), (67, ti67), (70, ti70), (71, ti71), (89, ti89), (90, ti90), (91, ti91), (92, ti92), (93, ti93), (94, ti94), (95, ti95), (96, ti96), (99, ti99), (100, ti100), (101, ti101), (102, ti102), (103, ti103), (104, ti104), (105, ti105), (106, ti106), (125, ti125), (126, ti126), (130, ti130), (146, ti146), (147, ti147), (153, ti153), (154, ti154), (155, ti155), (156, ti156), (170, ti170), (171, ti171), (173, ti173), (174, ti174), (182, ti182), (183, ti183), (192, ti192), (197, ti197), (198, ti198), (200, ti200), (201, ti201), (202, ti202), (203, ti203), (204, ti204), (205, ti205), (208, ti208), (216, ti216), (220, ti220), (221, ti221), (222, ti222), (223, ti223), (226, ti226), (227, ti227), (228, ti228), (229, ti229), (247, ti247), (248, ti248), (249, ti249), (252, ti252), (253, ti253)]
def tt : Nat → Option TI := lookT ttab
theorem tt_2 : tt 2 = some ti2 := rfl
theorem tt_3 : tt 3 = some ti3 := rfl
theorem tt_4 : tt 4 = some ti4 := rfl
theorem tt_5 : tt 5 = some ti5 := rfl
theorem tt_6 : tt 6 = some ti6 := rfl
theorem tt_7 : tt 7 = some ti7 := rfl
theorem tt_8 : tt 8 = some ti8 := rfl
theorem tt_9 : tt 9 = some ti9 := rfl
theorem tt_10 : tt 10 = some ti10 := rfl
theorem tt_11 : tt 11 = some ti11 := rfl
theorem tt_12 : tt 12 = some ti12 := rfl
theorem tt_13 : tt 13 = some ti13 := rfl
theorem tt_14 : tt 14 = some ti14 := rfl
theorem tt_21 : tt 21 = some ti21 := rfl
theorem tt_22 : tt 22 = some ti22 := rfl
theorem tt_23 : tt 23 = some ti23 := rfl
theorem tt_24 : tt 24 = some ti24 := rfl
theorem tt_25 : tt 25 = some ti25 := rfl
theorem tt_27 : tt 27 = some ti27 := rfl
theorem tt_28 : tt 28 = some ti28 := rfl
theorem tt_29 : tt 29 = some ti29 := rfl
theorem tt_30 : tt 30 = some ti30 := rfl
theorem tt_31 : tt 31 = some ti31 := rfl
theorem tt_40 : tt 40 = some ti40 := rfl
theorem tt_41 : tt 41 = some ti41 := rfl
theorem tt_42 : tt 42 = some ti42 := rfl
theorem tt_43 : tt 43 = some ti43 := rfl
theorem tt_44 : tt 44 = some ti44 := rfl
theorem tt_45 : tt 45 = some ti45 := rfl
theorem tt_46 : tt 46 = some ti46 := rfl
theorem tt_49 : tt 49 = some ti49 := rfl
theorem tt_50 : tt 50 = some ti50 := rfl
theorem tt_51 : tt 51 = some ti51 := rfl
theorem tt_52 : tt 52 = some ti52 := rfl
theorem tt_53 : tt 53 = some ti53 := rfl
theorem tt_54 : tt 54 = some ti54 := rfl
theorem tt_55 : tt 55 = some ti55 := rfl
theorem tt_66 : tt 66 = some ti66 := rfl
theorem tt_67 : tt 67 = some ti67 := rfl
theorem tt_70 : tt 70 = some ti70 := rfl
theorem tt_71 : tt 71 = some ti71 := rfl
theorem tt_89 : tt 89 = some ti89 := rfl
theorem tt_90 : tt 90 = some ti90 := rfl
theorem tt_91 : tt 91 = some ti91 := rfl
theorem tt_92 : tt 92 = some ti92 := rfl
theorem tt_93 : tt 93 = some ti93 := rfl
theorem tt_94 : tt 94 = some ti94 := rfl
theorem tt_95 : tt 95 = some ti95 := rfl
theorem tt_96 : tt 96 = some ti96 := rfl
theorem tt_99 : tt 99 = some ti99 := rfl
theorem tt_100 : tt 100 = some ti100 := rfl
theorem tt_101 : tt 101 = some ti101 := rfl
theorem tt_102 : tt 102 = some ti102 := rfl
theorem tt_103 : tt 103 = some ti103 := rfl
theorem tt_104 : tt 104 = some ti104 := rfl
theorem tt_105 : tt 105 = some ti105 := rfl
theorem tt_106 : tt 106 = some ti106 := rfl
theorem tt_125 : tt 125 = some ti125 := rfl
theorem tt_126 : tt 126 = some ti126 := rfl
theorem tt_130 : tt 130 = some ti130 := rfl
theorem tt_146 : tt 146 = some ti146 := rfl
theorem tt_147 : tt 147 = some ti147 := rfl
theorem tt_153 : tt 153 = some ti153 := rfl
theorem tt_154 : tt 154 = some ti154 := rfl
theorem tt_155 : tt 155 = some ti155 := rfl
theorem tt_156 : tt 156 = some ti156 := rfl
theorem tt_170 : tt 170 = some ti170 := rfl
theorem tt_171 : tt 171 = some ti171 := rfl
theorem tt_173 : tt 173 = some ti173 := rfl
theorem tt_174 : tt 174 = some ti174 := rfl
theorem tt_182 : tt 182 = some ti182 := rfl
theorem tt_183 : tt 183 = some ti183 := rfl
theorem tt_192 : tt 192 = some ti192 := rfl
theorem tt_197 : tt 197 = some ti197 := rfl
theorem tt_198 : tt 198 = some ti198 := rfl
theorem tt_200 : tt 200 = some ti200 := rfl
theorem tt_201 : tt 201 = some ti201 := rfl
theorem tt_202 : tt 202 = some ti202 := rfl
theorem tt_203 : tt 203 = some ti203 := rfl
theorem tt_204 : tt 204 = some ti204 := rfl
theorem tt_205 : tt 205 = some ti205 := rfl
theorem tt_208 : tt 208 = some ti208 := rfl
theorem tt_216 : tt 216 = some ti216 := rfl
theorem tt_220 : tt 220 = some ti220 := rfl
theorem tt_221 : tt 221 = some ti221 := rfl
theorem tt_222 : tt 222 = some ti222 := rfl
theorem tt_223 : tt 223 = some ti223 := rfl
theorem tt_226 : tt 226 = some ti226 := rfl
theorem tt_227 : tt 227 = some ti227 := rfl
theorem tt_228 : tt 228 = some ti228 := rfl
theorem tt_229 : tt 229 = some ti229 := rfl
theorem tt_247 : tt 247 = some ti247 := rfl
theorem tt_248 : tt 248 = some ti248 := rfl
theorem tt_249 : tt 249 = some ti249 := rfl
theorem tt_252 : tt 252 = some ti252 := rfl
theorem tt_253 : tt 253 = some ti253 := rfl
theorem ttab_ok : (ttab.all fun p => tiCheck Try.prog p.1 p.2) = true := by kernel_rfl
theorem tt_ok : ∀ t ti, tt t = some ti → TIok Try.prog t ti := table_ok ttab_ok
theorem eok {w0 : World} {base : Bs} : EOk ⟨Try.prog, tt, w0, base⟩ := tt_ok
attribute [simp] ti2 ti3 ti4 ti5 ti6 ti7 ti8 ti9 ti10 ti11 ti12 ti13 ti14 ti21 ti22 ti23 ti24 ti25 ti27 ti28 ti29 ti30 ti31 ti40 ti41 ti42 ti43 ti44 ti45 ti46 ti49 ti50 ti51 ti52 ti53 ti54 ti55 ti66 ti67 ti70 ti71 ti89 ti90 ti91 ti92 ti93 ti94 ti95 ti96 ti99 ti100 ti101 ti102 ti103 ti104 ti105 ti106 ti125 ti126 ti130 ti146 ti147 ti153 ti154 ti155 ti156 ti170 ti171 ti173 ti174 ti182 ti183 ti192 ti197 ti198 ti200 ti201 ti202 ti203 ti204 ti205 ti208 ti216 ti220 ti221 ti222 ti223 ti226 ti227 ti228 ti229 ti247 ti248 ti249 ti252 ti253 tt_2 tt_3 tt_4 tt_5 tt_6 tt_7 tt_8 tt_9 tt_10 tt_11 tt_12 tt_13 tt_14 tt_21 tt_22 tt_23 tt_24 tt_25 tt_27 tt_28 tt_29 tt_30 tt_31 tt_40 tt_41 tt_42 tt_43 tt_44 tt_45 tt_46 tt_49 tt_50 tt_51 tt_52 tt_53 tt_54 tt_55 tt_66 tt_67 tt_70 tt_71 tt_89 tt_90 tt_91 tt_92 tt_93 tt_94 tt_95 tt_96 tt_99 tt_100 tt_101 tt_102 tt_103 tt_104 tt_105 tt_106 tt_125 tt_126 tt_130 tt_146 tt_147 tt_153 tt_154 tt_155 tt_156 tt_170 tt_171 tt_173 tt_174 tt_182 tt_183 tt_192 tt_197 tt_198 tt_200 tt_201 tt_202 tt_203 tt_204 tt_205 tt_208 tt_216 tt_220 tt_221 tt_222 tt_223 tt_226 tt_227 tt_228 tt_229 tt_247 tt_248 tt_249 tt_252 tt_253
end Go.Proofs.Ytljhopjmmcmioaa
