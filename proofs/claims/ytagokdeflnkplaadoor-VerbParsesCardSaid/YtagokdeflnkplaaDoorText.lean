/-
  The walk of token.word; the library's Split and Join as contracts; a text's parts.
-/
import Derived.Test.YtagokdeflnkplaaDoorAm4
import Derived.Test.YtagokdeflnkplaaDoorRows
import Derived.Test.YtagokdeflnkplaaDoorShelf
import Derived.Shelf.Lays
import Derived.Shelf.RegionOpenPlain
import Derived.WalkKit
import Derived.Lib.Walk
import Derived.Lib.Strings
import Derived.Lib.IndexBytes
import Derived.Laws.RangeString
import Derived.Deep.LoopGhost
import Derived.Test.YtagokdeflnkplaaDoorAm5
import Derived.Lib.SplitLaws
import Derived.Lib.CountLaws
import Derived.Lib.Join
namespace Go.Proofs.YtagokdeflnkplaaDoor
open Go.Proofs.YtagokdeflnkplaaDoor.Am
def tt : TT := [
  (1, ⟨false, 1, [], 0, 0, 0, 0, [.nilfn], 0, .i64, none, []⟩),
  (2, ⟨false, 1, [], 0, 0, 0, 0, [.int .i64 0], 5, .i64, some [5], []⟩),
  (3, ⟨false, 1, [], 0, 0, 0, 0, [.int .i64 0], 5, .i64, some [5], []⟩),
  (4, ⟨false, 1, [], 0, 0, 0, 0, [.bool false], 6, .i64, some [6], []⟩),
  (5, ⟨false, 1, [], 0, 0, 0, 0, [.int .u8 0], 5, .u8, some [5], []⟩),
  (9, ⟨false, 1, [], 0, 0, 0, 0, [.str []], 4, .i64, some [4], []⟩),
  (12, ⟨false, 1, [], 0, 0, 0, 0, [.int .u64 0], 5, .u64, some [5], []⟩),
  (15, ⟨false, 1, [], 0, 0, 0, 0, [.nilp], 0, .i64, none, []⟩),
  (16, ⟨false, 1, [], 0, 0, 0, 0, [.nilp], 0, .i64, none, []⟩),
  (17, ⟨false, 1, [], 0, 0, 0, 0, [.nilp], 0, .i64, none, []⟩),
  (20, ⟨false, 1, [], 0, 0, 0, 0, [.junk], 0, .i64, none, []⟩),
  (21, ⟨false, 1, [], 0, 0, 0, 0, [.int .i32 0], 5, .i32, some [5], []⟩),
  (22, ⟨false, 1, [], 0, 0, 0, 0, [.nilfn], 0, .i64, none, []⟩),
  (23, ⟨false, 1, [], 0, 0, 0, 0, [.int .i64 0], 5, .i64, some [5], []⟩),
  (24, ⟨false, 1, [], 3, 1, 8, 0, [.nils], 3, .i64, none, []⟩),
  (25, ⟨true, 2, [(0, 1), (1, 1)], 0, 0, 0, 0, [.int .i64 0, .nils], 1, .i64, none, [23, 24]⟩),
  (26, ⟨true, 2, [(0, 1), (1, 1)], 0, 0, 0, 0, [.int .i64 0, .nils], 1, .i64, none, [23, 24]⟩),
  (28, ⟨false, 1, [], 0, 0, 0, 0, [.nilfn], 0, .i64, none, []⟩),
  (30, ⟨false, 1, [], 0, 0, 0, 0, [.nilfn], 0, .i64, none, []⟩),
  (31, ⟨false, 1, [], 0, 0, 0, 0, [.nilfn], 0, .i64, none, []⟩),
  (33, ⟨false, 1, [], 0, 0, 0, 0, [.nilfn], 0, .i64, none, []⟩),
  (34, ⟨false, 1, [], 0, 0, 0, 0, [.nilfn], 0, .i64, none, []⟩),
  (35, ⟨false, 1, [], 0, 0, 0, 0, [.nilfn], 0, .i64, none, []⟩),
  (36, ⟨false, 1, [], 0, 0, 0, 0, [.nilfn], 0, .i64, none, []⟩),
  (37, ⟨false, 1, [], 0, 0, 0, 0, [.nilfn], 0, .i64, none, []⟩),
  (38, ⟨false, 1, [], 0, 0, 0, 0, [.nilfn], 0, .i64, none, []⟩),
  (39, ⟨false, 1, [], 0, 0, 0, 0, [.nilfn], 0, .i64, none, []⟩),
  (40, ⟨false, 1, [], 78, 2, 16, 0, [.nils], 3, .i64, none, []⟩),
  (41, ⟨false, 1, [], 0, 0, 0, 0, [.nilfn], 0, .i64, none, []⟩),
  (42, ⟨false, 1, [], 0, 0, 0, 0, [.nilfn], 0, .i64, none, []⟩),
  (44, ⟨false, 1, [], 0, 0, 0, 0, [.nilfn], 0, .i64, none, []⟩),
  (45, ⟨false, 1, [], 0, 0, 0, 0, [.nilfn], 0, .i64, none, []⟩),
  (46, ⟨false, 1, [], 0, 0, 0, 0, [.nilfn], 0, .i64, none, []⟩),
  (47, ⟨false, 1, [], 0, 0, 0, 0, [.nilfn], 0, .i64, none, []⟩),
  (48, ⟨false, 1, [], 54, 2, 16, 0, [.nils], 3, .i64, none, []⟩),
  (49, ⟨true, 4, [(0, 1), (1, 1), (2, 1), (3, 1)], 0, 0, 0, 0, [.int .i64 0, .nils, .nils, .bool false], 1, .i64, none, [3, 48, 24, 4]⟩),
  (50, ⟨true, 4, [(0, 1), (1, 1), (2, 1), (3, 1)], 0, 0, 0, 0, [.int .i64 0, .nils, .nils, .bool false], 1, .i64, none, [3, 48, 24, 4]⟩),
  (51, ⟨true, 3, [(0, 1), (1, 1), (2, 1)], 0, 0, 0, 0, [.int .i64 0, .int .i64 0, .bool false], 1, .i64, some [5, 5, 6], [3, 3, 4]⟩),
  (52, ⟨true, 3, [(0, 1), (1, 1), (2, 1)], 0, 0, 0, 0, [.int .i64 0, .int .i64 0, .bool false], 1, .i64, some [5, 5, 6], [3, 3, 4]⟩),
  (53, ⟨true, 2, [(0, 1), (1, 1)], 0, 0, 0, 0, [.int .i64 0, .int .i64 0], 1, .i64, some [5, 5], [3, 3]⟩),
  (54, ⟨true, 2, [(0, 1), (1, 1)], 0, 0, 0, 0, [.int .i64 0, .int .i64 0], 1, .i64, some [5, 5], [3, 3]⟩),
  (55, ⟨true, 13, [(0, 1), (1, 4), (5, 1), (6, 3), (9, 2), (11, 2)], 0, 0, 0, 0, [.int .i64 0, .int .i64 0, .nils, .nils, .bool false, .int .i64 0, .int .i64 0, .int .i64 0, .bool false, .int .i64 0, .int .i64 0, .int .i64 0, .int .i64 0], 1, .i64, none, [3, 50, 3, 52, 54, 54]⟩),
  (56, ⟨true, 13, [(0, 1), (1, 4), (5, 1), (6, 3), (9, 2), (11, 2)], 0, 0, 0, 0, [.int .i64 0, .int .i64 0, .nils, .nils, .bool false, .int .i64 0, .int .i64 0, .int .i64 0, .bool false, .int .i64 0, .int .i64 0, .int .i64 0, .int .i64 0], 1, .i64, none, [3, 50, 3, 52, 54, 54]⟩),
  (58, ⟨false, 1, [], 0, 0, 0, 0, [.nilfn], 0, .i64, none, []⟩),
  (59, ⟨false, 1, [], 0, 0, 0, 0, [.nilfn], 0, .i64, none, []⟩),
  (60, ⟨false, 1, [], 0, 0, 0, 0, [.nilfn], 0, .i64, none, []⟩),
  (61, ⟨false, 1, [], 0, 0, 0, 0, [.nilfn], 0, .i64, none, []⟩),
  (62, ⟨false, 1, [], 0, 0, 0, 0, [.nilfn], 0, .i64, none, []⟩),
  (63, ⟨false, 1, [], 9, 1, 16, 0, [.nils], 3, .i64, none, []⟩),
  (65, ⟨false, 1, [], 0, 0, 0, 0, [.nilfn], 0, .i64, none, []⟩),
  (66, ⟨false, 1, [], 0, 0, 0, 0, [.nilfn], 0, .i64, none, []⟩),
  (68, ⟨false, 1, [], 0, 0, 0, 0, [.nilfn], 0, .i64, none, []⟩),
  (70, ⟨false, 1, [], 0, 0, 0, 0, [.nilfn], 0, .i64, none, []⟩),
  (71, ⟨false, 1, [], 0, 0, 0, 0, [.nilfn], 0, .i64, none, []⟩),
  (72, ⟨false, 1, [], 0, 0, 0, 0, [.nilfn], 0, .i64, none, []⟩),
  (73, ⟨false, 1, [], 0, 0, 0, 0, [.nilfn], 0, .i64, none, []⟩),
  (74, ⟨false, 1, [], 0, 0, 0, 0, [.nilfn], 0, .i64, none, []⟩),
  (75, ⟨true, 13, [], 9, 1, 16, 13, [.str [], .str [], .str [], .str [], .str [], .str [], .str [], .str [], .str [], .str [], .str [], .str [], .str []], 2, .i64, some [4, 4, 4, 4, 4, 4, 4, 4, 4, 4, 4, 4, 4], []⟩),
  (76, ⟨false, 1, [], 0, 0, 0, 0, [.nilfn], 0, .i64, none, []⟩),
  (77, ⟨true, 2, [(0, 1), (1, 1)], 0, 0, 0, 0, [.int .i64 0, .int .i64 0], 1, .i64, some [5, 5], [3, 3]⟩),
  (78, ⟨true, 2, [(0, 1), (1, 1)], 0, 0, 0, 0, [.int .i64 0, .int .i64 0], 1, .i64, some [5, 5], [3, 3]⟩),
  (79, ⟨false, 1, [], 0, 0, 0, 0, [.nilfn], 0, .i64, none, []⟩),
  (80, ⟨false, 1, [], 0, 0, 0, 0, [.nilfn], 0, .i64, none, []⟩),
  (81, ⟨false, 1, [], 0, 0, 0, 0, [.nilfn], 0, .i64, none, []⟩),
  (83, ⟨false, 1, [], 0, 0, 0, 0, [.nilfn], 0, .i64, none, []⟩),
  (84, ⟨false, 1, [], 0, 0, 0, 0, [.nilfn], 0, .i64, none, []⟩),
  (85, ⟨false, 1, [], 0, 0, 0, 0, [.nilfn], 0, .i64, none, []⟩),
  (86, ⟨false, 1, [], 0, 0, 0, 0, [.nilfn], 0, .i64, none, []⟩),
  (87, ⟨false, 1, [], 0, 0, 0, 0, [.nilfn], 0, .i64, none, []⟩),
  (88, ⟨false, 1, [], 0, 0, 0, 0, [.nilfn], 0, .i64, none, []⟩),
  (89, ⟨false, 1, [], 0, 0, 0, 0, [.nilfn], 0, .i64, none, []⟩),
  (91, ⟨false, 1, [], 0, 0, 0, 0, [.nilfn], 0, .i64, none, []⟩),
  (92, ⟨false, 1, [], 0, 0, 0, 0, [.nilfn], 0, .i64, none, []⟩),
  (94, ⟨false, 1, [], 0, 0, 0, 0, [.nilfn], 0, .i64, none, []⟩),
  (95, ⟨false, 1, [], 0, 0, 0, 0, [.nilfn], 0, .i64, none, []⟩),
  (96, ⟨false, 1, [], 0, 0, 0, 0, [.nilfn], 0, .i64, none, []⟩),
  (97, ⟨false, 1, [], 0, 0, 0, 0, [.nilfn], 0, .i64, none, []⟩),
  (98, ⟨false, 1, [], 0, 0, 0, 0, [.nilfn], 0, .i64, none, []⟩),
  (99, ⟨false, 1, [], 0, 0, 0, 0, [.nilfn], 0, .i64, none, []⟩),
  (100, ⟨false, 1, [], 0, 0, 0, 0, [.nilfn], 0, .i64, none, []⟩),
  (101, ⟨false, 1, [], 0, 0, 0, 0, [.nilfn], 0, .i64, none, []⟩),
  (103, ⟨false, 1, [], 0, 0, 0, 0, [.nilfn], 0, .i64, none, []⟩),
  (104, ⟨false, 1, [], 0, 0, 0, 0, [.nilfn], 0, .i64, none, []⟩),
  (105, ⟨false, 1, [], 0, 0, 0, 0, [.nilp], 0, .i64, none, []⟩),
  (106, ⟨false, 1, [], 5, 1, 1, 0, [.nils], 3, .i64, none, []⟩),
  (107, ⟨true, 2, [(0, 1), (1, 1)], 0, 0, 0, 0, [.nilp, .nils], 1, .i64, none, [105, 106]⟩),
  (108, ⟨true, 2, [(0, 1), (1, 1)], 0, 0, 0, 0, [.nilp, .nils], 1, .i64, none, [105, 106]⟩),
  (109, ⟨false, 1, [], 0, 0, 0, 0, [.nilfn], 0, .i64, none, []⟩),
  (110, ⟨false, 1, [], 0, 0, 0, 0, [.junk], 0, .i64, none, []⟩),
  (111, ⟨false, 1, [], 0, 0, 0, 0, [.junk], 0, .i64, none, []⟩),
  (113, ⟨false, 1, [], 0, 0, 0, 0, [.nilfn], 0, .i64, none, []⟩),
  (114, ⟨false, 1, [], 0, 0, 0, 0, [.nilfn], 0, .i64, none, []⟩),
  (115, ⟨false, 1, [], 0, 0, 0, 0, [.nilfn], 0, .i64, none, []⟩),
  (117, ⟨false, 1, [], 0, 0, 0, 0, [.nilfn], 0, .i64, none, []⟩),
  (118, ⟨false, 1, [], 0, 0, 0, 0, [.nilfn], 0, .i64, none, []⟩),
  (119, ⟨false, 1, [], 0, 0, 0, 0, [.int .u64 0], 5, .u64, some [5], []⟩),
  (121, ⟨false, 1, [], 0, 0, 0, 0, [.nilfn], 0, .i64, none, []⟩),
  (122, ⟨false, 1, [], 0, 0, 0, 0, [.nilfn], 0, .i64, none, []⟩),
  (123, ⟨false, 1, [], 0, 0, 0, 0, [.nilfn], 0, .i64, none, []⟩),
  (124, ⟨false, 1, [], 0, 0, 0, 0, [.nilfn], 0, .i64, none, []⟩),
  (125, ⟨false, 1, [], 0, 0, 0, 0, [.nilfn], 0, .i64, none, []⟩),
  (126, ⟨false, 1, [], 0, 0, 0, 0, [.nilfn], 0, .i64, none, []⟩),
  (127, ⟨false, 1, [], 0, 0, 0, 0, [.nilfn], 0, .i64, none, []⟩),
  (128, ⟨false, 1, [], 0, 0, 0, 0, [.nilp], 0, .i64, none, []⟩),
  (129, ⟨false, 1, [], 0, 0, 0, 0, [.nilfn], 0, .i64, none, []⟩),
  (130, ⟨false, 1, [], 0, 0, 0, 0, [.nilfn], 0, .i64, none, []⟩),
  (131, ⟨false, 1, [], 0, 0, 0, 0, [.int .u32 0], 5, .u32, some [5], []⟩),
  (133, ⟨false, 1, [], 0, 0, 0, 0, [.nilfn], 0, .i64, none, []⟩),
  (134, ⟨false, 1, [], 0, 0, 0, 0, [.int .u64 0], 5, .u64, some [5], []⟩),
  (136, ⟨false, 1, [], 0, 0, 0, 0, [.nilfn], 0, .i64, none, []⟩),
  (137, ⟨false, 1, [], 63, 1, 24, 0, [.nils], 3, .i64, none, []⟩),
  (138, ⟨false, 1, [], 0, 0, 0, 0, [.nilfn], 0, .i64, none, []⟩),
  (139, ⟨false, 1, [], 0, 0, 0, 0, [.nilfn], 0, .i64, none, []⟩),
  (140, ⟨false, 1, [], 0, 0, 0, 0, [.nilfn], 0, .i64, none, []⟩),
  (141, ⟨false, 1, [], 0, 0, 0, 0, [.nilp], 0, .i64, none, []⟩),
  (142, ⟨false, 1, [], 0, 0, 0, 0, [.nilfn], 0, .i64, none, []⟩),
  (143, ⟨false, 1, [], 0, 0, 0, 0, [.nilfn], 0, .i64, none, []⟩),
  (145, ⟨false, 1, [], 0, 0, 0, 0, [.nilfn], 0, .i64, none, []⟩),
  (146, ⟨false, 1, [], 0, 0, 0, 0, [.nilfn], 0, .i64, none, []⟩),
  (147, ⟨false, 1, [], 0, 0, 0, 0, [.nilfn], 0, .i64, none, []⟩),
  (148, ⟨true, 24, [], 5, 1, 1, 24, [.int .u8 0, .int .u8 0, .int .u8 0, .int .u8 0, .int .u8 0, .int .u8 0, .int .u8 0, .int .u8 0, .int .u8 0, .int .u8 0, .int .u8 0, .int .u8 0, .int .u8 0, .int .u8 0, .int .u8 0, .int .u8 0, .int .u8 0, .int .u8 0, .int .u8 0, .int .u8 0, .int .u8 0, .int .u8 0, .int .u8 0, .int .u8 0], 2, .i64, some [5, 5, 5, 5, 5, 5, 5, 5, 5, 5, 5, 5, 5, 5, 5, 5, 5, 5, 5, 5, 5, 5, 5, 5], []⟩),
  (149, ⟨false, 1, [], 0, 0, 0, 0, [.nilfn], 0, .i64, none, []⟩),
  (150, ⟨false, 1, [], 0, 0, 0, 0, [.nilfn], 0, .i64, none, []⟩),
  (152, ⟨false, 1, [], 0, 0, 0, 0, [.nilfn], 0, .i64, none, []⟩),
  (153, ⟨false, 1, [], 0, 0, 0, 0, [.nilfn], 0, .i64, none, []⟩),
  (154, ⟨true, 20, [], 134, 1, 8, 20, [.int .u64 0, .int .u64 0, .int .u64 0, .int .u64 0, .int .u64 0, .int .u64 0, .int .u64 0, .int .u64 0, .int .u64 0, .int .u64 0, .int .u64 0, .int .u64 0, .int .u64 0, .int .u64 0, .int .u64 0, .int .u64 0, .int .u64 0, .int .u64 0, .int .u64 0, .int .u64 0], 2, .i64, some [5, 5, 5, 5, 5, 5, 5, 5, 5, 5, 5, 5, 5, 5, 5, 5, 5, 5, 5, 5], []⟩),
  (155, ⟨true, 65, [], 5, 1, 1, 65, [.int .u8 0, .int .u8 0, .int .u8 0, .int .u8 0, .int .u8 0, .int .u8 0, .int .u8 0, .int .u8 0, .int .u8 0, .int .u8 0, .int .u8 0, .int .u8 0, .int .u8 0, .int .u8 0, .int .u8 0, .int .u8 0, .int .u8 0, .int .u8 0, .int .u8 0, .int .u8 0, .int .u8 0, .int .u8 0, .int .u8 0, .int .u8 0, .int .u8 0, .int .u8 0, .int .u8 0, .int .u8 0, .int .u8 0, .int .u8 0, .int .u8 0, .int .u8 0, .int .u8 0, .int .u8 0, .int .u8 0, .int .u8 0, .int .u8 0, .int .u8 0, .int .u8 0, .int .u8 0, .int .u8 0, .int .u8 0, .int .u8 0, .int .u8 0, .int .u8 0, .int .u8 0, .int .u8 0, .int .u8 0, .int .u8 0, .int .u8 0, .int .u8 0, .int .u8 0, .int .u8 0, .int .u8 0, .int .u8 0, .int .u8 0, .int .u8 0, .int .u8 0, .int .u8 0, .int .u8 0, .int .u8 0, .int .u8 0, .int .u8 0, .int .u8 0, .int .u8 0], 2, .i64, some [5, 5, 5, 5, 5, 5, 5, 5, 5, 5, 5, 5, 5, 5, 5, 5, 5, 5, 5, 5, 5, 5, 5, 5, 5, 5, 5, 5, 5, 5, 5, 5, 5, 5, 5, 5, 5, 5, 5, 5, 5, 5, 5, 5, 5, 5, 5, 5, 5, 5, 5, 5, 5, 5, 5, 5, 5, 5, 5, 5, 5, 5, 5, 5, 5], []⟩),
  (156, ⟨false, 1, [], 0, 0, 0, 0, [.nilfn], 0, .i64, none, []⟩),
  (157, ⟨true, 256, [], 5, 1, 1, 256, [.int .u8 0, .int .u8 0, .int .u8 0, .int .u8 0, .int .u8 0, .int .u8 0, .int .u8 0, .int .u8 0, .int .u8 0, .int .u8 0, .int .u8 0, .int .u8 0, .int .u8 0, .int .u8 0, .int .u8 0, .int .u8 0, .int .u8 0, .int .u8 0, .int .u8 0, .int .u8 0, .int .u8 0, .int .u8 0, .int .u8 0, .int .u8 0, .int .u8 0, .int .u8 0, .int .u8 0, .int .u8 0, .int .u8 0, .int .u8 0, .int .u8 0, .int .u8 0, .int .u8 0, .int .u8 0, .int .u8 0, .int .u8 0, .int .u8 0, .int .u8 0, .int .u8 0, .int .u8 0, .int .u8 0, .int .u8 0, .int .u8 0, .int .u8 0, .int .u8 0, .int .u8 0, .int .u8 0, .int .u8 0, .int .u8 0, .int .u8 0, .int .u8 0, .int .u8 0, .int .u8 0, .int .u8 0, .int .u8 0, .int .u8 0, .int .u8 0, .int .u8 0, .int .u8 0, .int .u8 0, .int .u8 0, .int .u8 0, .int .u8 0, .int .u8 0, .int .u8 0, .int .u8 0, .int .u8 0, .int .u8 0, .int .u8 0, .int .u8 0, .int .u8 0, .int .u8 0, .int .u8 0, .int .u8 0, .int .u8 0, .int .u8 0, .int .u8 0, .int .u8 0, .int .u8 0, .int .u8 0, .int .u8 0, .int .u8 0, .int .u8 0, .int .u8 0, .int .u8 0, .int .u8 0, .int .u8 0, .int .u8 0, .int .u8 0, .int .u8 0, .int .u8 0, .int .u8 0, .int .u8 0, .int .u8 0, .int .u8 0, .int .u8 0, .int .u8 0, .int .u8 0, .int .u8 0, .int .u8 0, .int .u8 0, .int .u8 0, .int .u8 0, .int .u8 0, .int .u8 0, .int .u8 0, .int .u8 0, .int .u8 0, .int .u8 0, .int .u8 0, .int .u8 0, .int .u8 0, .int .u8 0, .int .u8 0, .int .u8 0, .int .u8 0, .int .u8 0, .int .u8 0, .int .u8 0, .int .u8 0, .int .u8 0, .int .u8 0, .int .u8 0, .int .u8 0, .int .u8 0, .int .u8 0, .int .u8 0, .int .u8 0, .int .u8 0, .int .u8 0, .int .u8 0, .int .u8 0, .int .u8 0, .int .u8 0, .int .u8 0, .int .u8 0, .int .u8 0, .int .u8 0, .int .u8 0, .int .u8 0, .int .u8 0, .int .u8 0, .int .u8 0, .int .u8 0, .int .u8 0, .int .u8 0, .int .u8 0, .int .u8 0, .int .u8 0, .int .u8 0, .int .u8 0, .int .u8 0, .int .u8 0, .int .u8 0, .int .u8 0, .int .u8 0, .int .u8 0, .int .u8 0, .int .u8 0, .int .u8 0, .int .u8 0, .int .u8 0, .int .u8 0, .int .u8 0, .int .u8 0, .int .u8 0, .int .u8 0, .int .u8 0, .int .u8 0, .int .u8 0, .int .u8 0, .int .u8 0, .int .u8 0, .int .u8 0, .int .u8 0, .int .u8 0, .int .u8 0, .int .u8 0, .int .u8 0, .int .u8 0, .int .u8 0, .int .u8 0, .int .u8 0, .int .u8 0, .int .u8 0, .int .u8 0, .int .u8 0, .int .u8 0, .int .u8 0, .int .u8 0, .int .u8 0, .int .u8 0, .int .u8 0, .int .u8 0, .int .u8 0, .int .u8 0, .int .u8 0, .int .u8 0, .int .u8 0, .int .u8 0, .int .u8 0, .int .u8 0, .int .u8 0, .int .u8 0, .int .u8 0, .int .u8 0, .int .u8 0, .int .u8 0, .int .u8 0, .int .u8 0, .int .u8 0, .int .u8 0, .int .u8 0, .int .u8 0, .int .u8 0, .int .u8 0, .int .u8 0, .int .u8 0, .int .u8 0, .int .u8 0, .int .u8 0, .int .u8 0, .int .u8 0, .int .u8 0, .int .u8 0, .int .u8 0, .int .u8 0, .int .u8 0, .int .u8 0, .int .u8 0, .int .u8 0, .int .u8 0, .int .u8 0, .int .u8 0, .int .u8 0, .int .u8 0, .int .u8 0, .int .u8 0, .int .u8 0, .int .u8 0, .int .u8 0, .int .u8 0, .int .u8 0, .int .u8 0, .int .u8 0, .int .u8 0, .int .u8 0, .int .u8 0, .int .u8 0, .int .u8 0, .int .u8 0, .int .u8 0, .int .u8 0, .int .u8 0, .int .u8 0, .int .u8 0], 2, .i64, some [5, 5, 5, 5, 5, 5, 5, 5, 5, 5, 5, 5, 5, 5, 5, 5, 5, 5, 5, 5, 5, 5, 5, 5, 5, 5, 5, 5, 5, 5, 5, 5, 5, 5, 5, 5, 5, 5, 5, 5, 5, 5, 5, 5, 5, 5, 5, 5, 5, 5, 5, 5, 5, 5, 5, 5, 5, 5, 5, 5, 5, 5, 5, 5, 5, 5, 5, 5, 5, 5, 5, 5, 5, 5, 5, 5, 5, 5, 5, 5, 5, 5, 5, 5, 5, 5, 5, 5, 5, 5, 5, 5, 5, 5, 5, 5, 5, 5, 5, 5, 5, 5, 5, 5, 5, 5, 5, 5, 5, 5, 5, 5, 5, 5, 5, 5, 5, 5, 5, 5, 5, 5, 5, 5, 5, 5, 5, 5, 5, 5, 5, 5, 5, 5, 5, 5, 5, 5, 5, 5, 5, 5, 5, 5, 5, 5, 5, 5, 5, 5, 5, 5, 5, 5, 5, 5, 5, 5, 5, 5, 5, 5, 5, 5, 5, 5, 5, 5, 5, 5, 5, 5, 5, 5, 5, 5, 5, 5, 5, 5, 5, 5, 5, 5, 5, 5, 5, 5, 5, 5, 5, 5, 5, 5, 5, 5, 5, 5, 5, 5, 5, 5, 5, 5, 5, 5, 5, 5, 5, 5, 5, 5, 5, 5, 5, 5, 5, 5, 5, 5, 5, 5, 5, 5, 5, 5, 5, 5, 5, 5, 5, 5, 5, 5, 5, 5, 5, 5, 5, 5, 5, 5, 5, 5, 5, 5, 5, 5, 5, 5, 5, 5, 5, 5, 5, 5], []⟩),
  (158, ⟨true, 2, [(0, 1), (1, 1)], 0, 0, 0, 0, [.int .u8 0, .int .u8 0], 1, .i64, some [5, 5], [5, 5]⟩),
  (159, ⟨true, 2, [(0, 1), (1, 1)], 0, 0, 0, 0, [.int .u8 0, .int .u8 0], 1, .i64, some [5, 5], [5, 5]⟩),
  (160, ⟨true, 32, [], 159, 2, 2, 16, [.int .u8 0, .int .u8 0, .int .u8 0, .int .u8 0, .int .u8 0, .int .u8 0, .int .u8 0, .int .u8 0, .int .u8 0, .int .u8 0, .int .u8 0, .int .u8 0, .int .u8 0, .int .u8 0, .int .u8 0, .int .u8 0, .int .u8 0, .int .u8 0, .int .u8 0, .int .u8 0, .int .u8 0, .int .u8 0, .int .u8 0, .int .u8 0, .int .u8 0, .int .u8 0, .int .u8 0, .int .u8 0, .int .u8 0, .int .u8 0, .int .u8 0, .int .u8 0], 2, .i64, some [5, 5, 5, 5, 5, 5, 5, 5, 5, 5, 5, 5, 5, 5, 5, 5, 5, 5, 5, 5, 5, 5, 5, 5, 5, 5, 5, 5, 5, 5, 5, 5], []⟩),
  (161, ⟨false, 1, [], 0, 0, 0, 0, [.nilfn], 0, .i64, none, []⟩),
  (162, ⟨false, 1, [], 0, 0, 0, 0, [.nilfn], 0, .i64, none, []⟩),
  (163, ⟨true, 32, [], 5, 1, 1, 32, [.int .u8 0, .int .u8 0, .int .u8 0, .int .u8 0, .int .u8 0, .int .u8 0, .int .u8 0, .int .u8 0, .int .u8 0, .int .u8 0, .int .u8 0, .int .u8 0, .int .u8 0, .int .u8 0, .int .u8 0, .int .u8 0, .int .u8 0, .int .u8 0, .int .u8 0, .int .u8 0, .int .u8 0, .int .u8 0, .int .u8 0, .int .u8 0, .int .u8 0, .int .u8 0, .int .u8 0, .int .u8 0, .int .u8 0, .int .u8 0, .int .u8 0, .int .u8 0], 2, .i64, some [5, 5, 5, 5, 5, 5, 5, 5, 5, 5, 5, 5, 5, 5, 5, 5, 5, 5, 5, 5, 5, 5, 5, 5, 5, 5, 5, 5, 5, 5, 5, 5], []⟩),
  (164, ⟨true, 64, [], 5, 1, 1, 64, [.int .u8 0, .int .u8 0, .int .u8 0, .int .u8 0, .int .u8 0, .int .u8 0, .int .u8 0, .int .u8 0, .int .u8 0, .int .u8 0, .int .u8 0, .int .u8 0, .int .u8 0, .int .u8 0, .int .u8 0, .int .u8 0, .int .u8 0, .int .u8 0, .int .u8 0, .int .u8 0, .int .u8 0, .int .u8 0, .int .u8 0, .int .u8 0, .int .u8 0, .int .u8 0, .int .u8 0, .int .u8 0, .int .u8 0, .int .u8 0, .int .u8 0, .int .u8 0, .int .u8 0, .int .u8 0, .int .u8 0, .int .u8 0, .int .u8 0, .int .u8 0, .int .u8 0, .int .u8 0, .int .u8 0, .int .u8 0, .int .u8 0, .int .u8 0, .int .u8 0, .int .u8 0, .int .u8 0, .int .u8 0, .int .u8 0, .int .u8 0, .int .u8 0, .int .u8 0, .int .u8 0, .int .u8 0, .int .u8 0, .int .u8 0, .int .u8 0, .int .u8 0, .int .u8 0, .int .u8 0, .int .u8 0, .int .u8 0, .int .u8 0, .int .u8 0], 2, .i64, some [5, 5, 5, 5, 5, 5, 5, 5, 5, 5, 5, 5, 5, 5, 5, 5, 5, 5, 5, 5, 5, 5, 5, 5, 5, 5, 5, 5, 5, 5, 5, 5, 5, 5, 5, 5, 5, 5, 5, 5, 5, 5, 5, 5, 5, 5, 5, 5, 5, 5, 5, 5, 5, 5, 5, 5, 5, 5, 5, 5, 5, 5, 5, 5], []⟩),
  (167, ⟨true, 0, [], 16, 1, 8, 0, [], 2, .i64, none, []⟩),
  (170, ⟨false, 1, [], 0, 0, 0, 0, [.nilfn], 0, .i64, none, []⟩),
  (173, ⟨false, 1, [], 0, 0, 0, 0, [.nilfn], 0, .i64, none, []⟩),
  (176, ⟨true, 11, [(0, 1), (1, 1), (2, 1), (3, 1), (4, 1), (5, 1), (6, 1), (7, 1), (8, 1), (9, 1), (10, 1)], 0, 0, 0, 0, [.int .u64 0, .int .u64 0, .int .u32 0, .int .u8 0, .int .u8 0, .int .u8 0, .int .u8 0, .nilfn, .nilp, .int .i32 0, .int .i32 0], 1, .i64, none, [12, 12, 131, 171, 5, 5, 172, 173, 128, 174, 175]⟩)
]
theorem ttok : TTok Tryd.prog tt := TTok.of_map (by kernel_rfl)
end Go.Proofs.YtagokdeflnkplaaDoor
set_option linter.unusedSimpArgs false
namespace Go.Proofs.YtagokdeflnkplaaDoor
open Go.Shelf Go.RowKit Go.Lib
/-! ### A word's bytes: the walk of a range over a string -/
def okB (b : UInt8) : Prop := 33 ≤ b.toNat ∧ b.toNat ≤ 126
instance (b : UInt8) : Decidable (okB b) := inferInstanceAs (Decidable (_ ∧ _))
def wordP (s : List UInt8) : Prop := s ≠ [] ∧ ∀ b ∈ s, okB b
instance (s : List UInt8) : Decidable (wordP s) := inferInstanceAs (Decidable (_ ∧ _))
theorem decode_high (s : ByteArray) (pos : Nat) (h : pos < s.size) (ha : ¬ (s[pos]'h).toNat < 128) : 128 ≤ (Utf8.decode s pos).1 := by
  have e : s.get! (pos + 0) = s[pos]'h := by
    show s.get! pos = _
    simp [ByteArray.get!, getElem!_pos, h]
    rfl
  unfold Utf8.decode
  simp only [e, ha, if_false]
  split
  · split
    · rename_i hc; exact hc
    · show 128 ≤ Utf8.runeError; decide
  · split
    · split
      · rename_i hc
        rw [Bool.and_eq_true] at hc
        have := of_decide_eq_true hc.1
        show 128 ≤ _
        omega
      · show 128 ≤ Utf8.runeError; decide
    · split
      · split
        · rename_i hc
          rw [Bool.and_eq_true] at hc
          have := of_decide_eq_true hc.1
          show 128 ≤ _
          omega
        · show 128 ≤ Utf8.runeError; decide
      · show 128 ≤ Utf8.runeError; decide
theorem run_next_any {P : Program} (w : World) (s : ByteArray) (pos : Nat) (ty : TypeId) (h : pos < s.size) :
    (Instr.next (.pointer (some ⟨w.heap.size, 0, none⟩)) true ty).run P (w.iter s pos) =
      .ok (.tuple #[.bool true, .int .i64 pos, .int .i32 (Utf8.decode s pos).1]) (w.iter s (pos + (Utf8.decode s pos).2)) := by
  simp only [Instr.next, getObj, setObj, Sem.run_bind, Sem.run, World.iter_heap, Result.andThen, h, if_true, World.iter_set]
  simp [goInt, Sem.run, World.iter_heap, World.iter_set]
set_option maxHeartbeats 4000000 in
set_option maxRecDepth 1000000 in
theorem word_raw (s : ByteArray) (w : World) : Calls Tryd.prog 74 #[.string s] w fun e w' => e = .returned (.bool (decide (wordP s.data.toList))) ∧ ∃ i, w' = w.iter s i := by
  go_enter Tryd.func74, Tryd.ntmps74
  go_wp2
  go_loopg [] s.size (fun g wx => ∃ i : Nat, i + g = s.size ∧ wx = w.iter s i ∧ ∀ (j : Nat) b, j < i → s.data.toList[j]? = some b → okB b)
  case atStart => exact ⟨0, by omega, rfl, fun j b h => by omega⟩
  case round =>
    obtain ⟨i, hig, rfl, hall⟩ := hrel
    have HA : Aside (∀ (j : Nat) b, j < i → s.data.toList[j]? = some b → okB b) := hall
    clear hall
    cases gk with
    | zero =>
      obtain rfl : i = s.size := by omega
      have hnx := run_next_end (P := Tryd.prog) w s s.size
      go_wp2
      go_ret
      refine ⟨?_, _, rfl⟩
      have hw : wordP s.data.toList ↔ s.data.toList ≠ [] := ⟨fun h => h.1, fun h => ⟨h, fun b hb => by
        obtain ⟨j, hj, e⟩ := List.getElem_of_mem hb
        exact HA.out j b (show j < s.data.size by simpa using hj) (by rw [List.getElem?_eq_getElem hj, e])⟩⟩
      show Ending.returned (.bool (!s.toList.isEmpty)) = _
      congr 2
      rw [Lib.toList_data, Bool.eq_iff_iff, decide_eq_true_iff, hw]
      simp
    | succ g =>
      have hi : i < s.size := by omega
      have hd := Lib.data_getElem? s i hi
      by_cases hok : okB (s[i]'hi)
      · have hnx := fun ty => run_next_ascii (P := Tryd.prog) w s i ty hi (by unfold okB at hok; omega)
        have hok' : 33 ≤ (s[i]'hi).toNat ∧ (s[i]'hi).toNat ≤ 126 := hok
        go_wp2
        all_goals try (exfalso; omega)
        go_roundg g
        case measure => omega
        case rel =>
          refine ⟨i + 1, by omega, rfl, fun j b hj hb => ?_⟩
          rcases Nat.lt_or_eq_of_le (Nat.le_of_lt_succ hj) with q | q
          · exact HA.out j b q hb
          · subst q
            rw [hd] at hb
            rw [← Option.some.inj hb]; exact hok
      · have hnx := fun ty => run_next_any (P := Tryd.prog) w s i ty hi
        have hbad : (Utf8.decode s i).1 < 33 ∨ 126 < (Utf8.decode s i).1 := by
          by_cases ha : (s[i]'hi).toNat < 128
          · rw [decode_ascii s i hi ha]
            unfold okB at hok
            show (s[i]'hi).toNat < 33 ∨ 126 < (s[i]'hi).toNat
            omega
          · have := decode_high s i hi ha
            omega
        have hnw : ¬ wordP s.data.toList := fun h => hok (h.2 _ (List.mem_of_getElem? hd))
        go_wp2
        all_goals try (exfalso; omega)
        all_goals (go_ret; first | exact ⟨rfl, _, rfl⟩ | exact ⟨by rw [decide_eq_false hnw]; rfl, _, rfl⟩)
end Go.Proofs.YtagokdeflnkplaaDoor
set_option linter.unusedSimpArgs false
namespace Go.Proofs.YtagokdeflnkplaaDoor
open Go.Proofs.YtagokdeflnkplaaDoor.Am Go.Lib
open Go.RowKit (Below)
variable {G : GInv}
theorem mixed : Tryd.prog.follows .mixedOrders = true := by kernel_rfl
def rowStr (l : List (List UInt8)) : Nat → List A := fun i => [.str (l.getD i [])]
def strsA (l : List (List UInt8)) : A := .sl l.length 1 (rowStr l)
/-! ### A text's parts -/
def cutL (c : UInt8) : List UInt8 → List (List UInt8)
  | [] => [[]]
  | b :: l => if b = c then [] :: cutL c l else match cutL c l with
    | h :: t => (b :: h) :: t
    | [] => [[b]]
theorem cutL_ne (c : UInt8) : ∀ s, cutL c s ≠ []
  | [] => by simp [cutL]
  | b :: l => by
    unfold cutL
    split
    · simp
    · split <;> simp
theorem index_one_cons (b c : UInt8) (l : List UInt8) : index (b :: l) [c] = if b = c then 0 else if index l [c] = -1 then -1 else index l [c] + 1 := by
  by_cases h : b = c
  · subst h
    rw [if_pos rfl]
    exact index_first (i := 0) (Nat.zero_le _) (by simp [occAt, List.isPrefixOf]) (fun _ h => absurd h (Nat.not_lt_zero _))
  · rw [if_neg h]
    have hb : (c == b) = false := by rw [beq_eq_false_iff_ne]; exact fun e => h e.symm
    conv => lhs; unfold index
    simp [List.isPrefixOf, hb]
theorem splitK_miss (sep : List UInt8) (k : Nat) (s : List UInt8) (h : index s sep = -1) : splitK sep 0 k s = [s] := by
  cases k with
  | zero => rfl
  | succ k => unfold splitK; rw [if_pos (beq_iff_eq.2 h)]
theorem splitK_hit (sep : List UInt8) (k : Nat) (s : List UInt8) (i : Nat) (h : index s sep = i) : splitK sep 0 (k + 1) s = s.take i :: splitK sep 0 k (s.drop (i + sep.length)) := by
  have hm : ¬ (index s sep == -1) = true := fun e => by have := beq_iff_eq.1 e; omega
  have e : (index s sep).toNat = i := by omega
  rw [splitK, if_neg hm, e]
  simp
theorem split_cutL (c : UInt8) : ∀ s, split s [c] = cutL c s
  | [] => rfl
  | b :: l => by
    have ih := split_cutL c l
    by_cases h : b = c
    · subst h
      have hi : index (b :: l) [b] = ((0 : Nat) : Int) := by rw [index_one_cons, if_pos rfl]; rfl
      unfold split
      rw [count_cons_eq, Nat.add_comm, splitK_hit _ _ _ 0 hi, cutL, if_pos rfl, ← ih]
      rfl
    · have hc : count (b :: l) [c] = count l [c] := count_cons_ne b c l h
      rw [cutL, if_neg h, ← ih]
      unfold split
      rw [hc]
      by_cases hm : index l [c] = -1
      · rw [splitK_miss _ _ _ hm, splitK_miss _ _ _ (by rw [index_one_cons, if_neg h, if_pos hm])]
      · obtain ⟨i, hi⟩ : ∃ i : Nat, index l [c] = i := ⟨(index l [c]).toNat, by have := index_ge l [c]; omega⟩
        have hk : count l [c] = 1 + count (l.drop (i + 1)) [c] := count_hit (by simp) hi
        have hi2 : index (b :: l) [c] = ((i + 1 : Nat) : Int) := by rw [index_one_cons, if_neg h, if_neg hm, hi]; rfl
        rw [hk, Nat.add_comm, splitK_hit _ _ _ i hi, splitK_hit _ _ _ (i + 1) hi2]
        rfl
/-! ### The library's functions, as contracts -/
theorem strI_inv {im : Nat → Prop} {w : World} {s : List UInt8} {v : Value} (h : RelI im w (.str s) v) : v = .string ⟨s.toArray⟩ := by cases h; rfl
theorem word_c (s : List UInt8) : ACalls Tryd.prog G 74 [.str s] (.sb (decide (wordP s))) := by
  refine ⟨⟨_, _, Tryd.func74, rfl, by kernel_rfl⟩, ?_⟩
  intro im w vs him hG hl hr
  match vs, hl with
  | [a], _ =>
    have h0 : RelI im w (.str s) a := hr 0 (by simp) (by simp)
    obtain rfl := strI_inv h0
    refine Calls_mono (word_raw ⟨s.toArray⟩ w) ?_
    rintro e w' ⟨rfl, i, rfl⟩
    exact ⟨_, rfl, .sb _, Bw.of_below ((Below.refl _ w).alloc (Nat.le_refl _) _)⟩
def HasMax (G : GInv) : Prop := ∀ w, G.G w → ∃ m, w.cell? ⟨0, 0, none⟩ = some (.int .i64 m)
theorem split_c (hM : HasMax G) (s : List UInt8) (c : UInt8) (hs : s.length < 4294967281) : ACalls Tryd.prog G 53 [.str s, .str [c]] (strsA (cutL c s)) := by
  refine ⟨⟨_, _, Tryd.func53, rfl, by kernel_rfl⟩, ?_⟩
  intro im w vs him hG hl hr
  match vs, hl with
  | [a, b], _ =>
    have h0 : RelI im w (.str s) a := hr 0 (by simp) (by simp)
    have h1 : RelI im w (.str [c]) b := hr 1 (by simp) (by simp)
    obtain rfl := strI_inv h0
    obtain rfl := strI_inv h1
    obtain ⟨m, hm⟩ := hM w hG
    have hsz : (⟨s.toArray⟩ : ByteArray).size = s.length := by simp [ByteArray.size]
    refine Calls_mono (Tryd.strings_Split ⟨s.toArray⟩ ⟨[c].toArray⟩ m w (by rw [hsz]; exact hs) hm (by simp [ByteArray.size])) ?_
    rintro e w' ⟨rfl, rfl⟩
    have hdat := splitB_data ⟨[c].toArray⟩ 0 (countB ⟨s.toArray⟩ ⟨[c].toArray⟩) ⟨s.toArray⟩
    have hlen := splitB_all ⟨[c].toArray⟩ (by simp [ByteArray.size]) 0 _ ⟨s.toArray⟩ rfl
    have hcut : (splitB ⟨[c].toArray⟩ 0 (countB ⟨s.toArray⟩ ⟨[c].toArray⟩) ⟨s.toArray⟩).map (·.data.toList) = cutL c s := by
      rw [hdat, ← split_cutL]; rfl
    generalize splitB ⟨[c].toArray⟩ 0 (countB ⟨s.toArray⟩ ⟨[c].toArray⟩) ⟨s.toArray⟩ = L at *
    rw [← hlen]
    have hL : (cutL c s).length = L.length := by rw [← hcut, List.length_map]
    refine ⟨_, rfl, ?_, Bw.of_below ((Below.refl _ w).alloc (Nat.le_refl _) _)⟩
    unfold strsA
    rw [hL]
    refine .sl L.length 1 _ w.heap.size 0 L.length (fun i _ => (L.map Value.string).getD i undef) (.inr ⟨Nat.le_refl _, by show w.heap.size < (w.heap.push _).size; simp⟩) (Nat.le_refl _) (fun i _ => rfl) ?_ ?_ ?_
    · intro i j hi hj
      have hj0 : j = 0 := by omega
      subst hj0
      rw [show 0 + i * 1 + 0 = i by omega]
      have hh : (w.alloc (.cells (L.map Value.string).toArray 9)).heap[w.heap.size]? = some (.cells (L.map Value.string).toArray 9 (0, 0)) := by
        show (w.heap.push _)[w.heap.size]? = _
        simp
      unfold World.cell?
      simp only [hh]
      simp [List.getD_eq_getElem?_getD, hi]
    · intro i j hi hj
      simp [List.getD_eq_getElem?_getD, hi]
      rfl
    · intro i j hi hj
      have hj0 : j = 0 := by simp [rowStr] at hj; omega
      subst hj0
      have e : (cutL c s).getD i [] = (L[i]'hi).data.toList := by
        rw [← hcut]; simp [List.getD_eq_getElem?_getD, hi]
      have e2 : (L.map Value.string).getD i undef = .string (L[i]'hi) := by simp [List.getD_eq_getElem?_getD, hi]
      show RelI _ _ (.str ((cutL c s).getD i [])) ((L.map Value.string).getD i undef)
      rw [e, e2]
      have := RelI.str (im := fun b => im b ∨ (w.heap.size ≤ b ∧ b < (w.alloc (.cells (L.map Value.string).toArray 9)).heap.size)) (w := w.alloc (.cells (L.map Value.string).toArray 9)) (L[i]'hi).data.toList
      simpa using this
end Go.Proofs.YtagokdeflnkplaaDoor
