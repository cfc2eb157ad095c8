/-
  The walks and plain laws, part 1.
-/
import Derived.Test.YtnkbkfjgbejhfaaGreatBm3
import Derived.Test.YtnkbkfjgbejhfaaGreatRows
import Derived.Tactics
import Derived.Test.YtnkbkfjgbejhfaaGreatBm4
set_option linter.unusedSimpArgs false
set_option linter.unusedSectionVars false
set_option linter.unusedVariables false
set_option maxRecDepth 100000
set_option maxHeartbeats 2000000
namespace Go.Proofs.YtnkbkfjgbejhfaaGreat
open Go.Proofs.YtnkbkfjgbejhfaaGreat.Am
variable [Inhabited DRT]
def tt : TT := [
 (1, ⟨false, 1, [], 0, 0, 0, 0, [.nilfn], 9, .i64, none, []⟩),
 (2, ⟨false, 1, [], 0, 0, 0, 0, [.int .i64 0], 5, .i64, some [5], []⟩),
 (3, ⟨false, 1, [], 0, 0, 0, 0, [.int .i64 0], 5, .i64, some [5], []⟩),
 (4, ⟨false, 1, [], 0, 0, 0, 0, [.bool false], 6, .i64, some [6], []⟩),
 (5, ⟨false, 1, [], 0, 0, 0, 0, [.int .u8 0], 5, .u8, some [5], []⟩),
 (9, ⟨false, 1, [], 0, 0, 0, 0, [.str []], 4, .i64, some [4], []⟩),
 (12, ⟨false, 1, [], 0, 0, 0, 0, [.int .u64 0], 5, .u64, some [5], []⟩),
 (15, ⟨false, 1, [], 0, 0, 0, 0, [.nilp], 8, .i64, none, []⟩),
 (16, ⟨false, 1, [], 0, 0, 0, 0, [.nilp], 8, .i64, none, []⟩),
 (17, ⟨false, 1, [], 0, 0, 0, 0, [.nilp], 8, .i64, none, []⟩),
 (20, ⟨false, 1, [], 0, 0, 0, 0, [.junk], 0, .i64, none, []⟩),
 (21, ⟨false, 1, [], 0, 0, 0, 0, [.int .i32 0], 5, .i32, some [5], []⟩),
 (22, ⟨false, 1, [], 3, 1, 8, 0, [.nils], 3, .i64, none, []⟩),
 (23, ⟨true, 3, [(0, 1), (1, 1), (2, 1)], 0, 0, 0, 0, [.nils, .nils, .nils], 1, .i64, none, [22, 22, 22]⟩),
 (24, ⟨true, 3, [(0, 1), (1, 1), (2, 1)], 0, 0, 0, 0, [.nils, .nils, .nils], 1, .i64, none, [22, 22, 22]⟩),
 (25, ⟨false, 1, [], 41, 2, 16, 0, [.nils], 3, .i64, none, []⟩),
 (26, ⟨true, 2, [(0, 1), (1, 1)], 0, 0, 0, 0, [.nils, .nils], 1, .i64, none, [25, 25]⟩),
 (27, ⟨true, 2, [(0, 1), (1, 1)], 0, 0, 0, 0, [.nils, .nils], 1, .i64, none, [25, 25]⟩),
 (28, ⟨false, 1, [], 0, 0, 0, 0, [.nilfn], 9, .i64, none, []⟩),
 (29, ⟨false, 1, [], 0, 0, 0, 0, [.nilfn], 9, .i64, none, []⟩),
 (30, ⟨false, 1, [], 44, 4, 32, 0, [.nils], 3, .i64, none, []⟩),
 (31, ⟨true, 2, [(0, 1), (1, 1)], 0, 0, 0, 0, [.nils, .nils], 1, .i64, none, [22, 30]⟩),
 (32, ⟨true, 2, [(0, 1), (1, 1)], 0, 0, 0, 0, [.nils, .nils], 1, .i64, none, [22, 30]⟩),
 (33, ⟨false, 1, [], 0, 0, 0, 0, [.int .i64 0], 5, .i64, some [5], []⟩),
 (35, ⟨false, 1, [], 0, 0, 0, 0, [.nilfn], 9, .i64, none, []⟩),
 (36, ⟨false, 1, [], 0, 0, 0, 0, [.nilfn], 9, .i64, none, []⟩),
 (38, ⟨false, 1, [], 0, 0, 0, 0, [.nilfn], 9, .i64, none, []⟩),
 (39, ⟨false, 1, [], 0, 0, 0, 0, [.nilfn], 9, .i64, none, []⟩),
 (40, ⟨true, 2, [(0, 1), (1, 1)], 0, 0, 0, 0, [.int .i64 0, .int .i64 0], 1, .i64, some [5, 5], [3, 3]⟩),
 (41, ⟨true, 2, [(0, 1), (1, 1)], 0, 0, 0, 0, [.int .i64 0, .int .i64 0], 1, .i64, some [5, 5], [3, 3]⟩),
 (42, ⟨false, 1, [], 0, 0, 0, 0, [.nilfn], 9, .i64, none, []⟩),
 (43, ⟨true, 4, [(0, 1), (1, 1), (2, 1), (3, 1)], 0, 0, 0, 0, [.int .i64 0, .int .i64 0, .int .i64 0, .int .i64 0], 1, .i64, some [5, 5, 5, 5], [3, 3, 3, 3]⟩),
 (44, ⟨true, 4, [(0, 1), (1, 1), (2, 1), (3, 1)], 0, 0, 0, 0, [.int .i64 0, .int .i64 0, .int .i64 0, .int .i64 0], 1, .i64, some [5, 5, 5, 5], [3, 3, 3, 3]⟩),
 (46, ⟨false, 1, [], 0, 0, 0, 0, [.nilfn], 9, .i64, none, []⟩),
 (47, ⟨false, 1, [], 0, 0, 0, 0, [.nilp], 8, .i64, none, []⟩),
 (48, ⟨false, 1, [], 0, 0, 0, 0, [.nilfn], 9, .i64, none, []⟩),
 (49, ⟨false, 1, [], 75, 1, 8, 0, [.nils], 3, .i64, none, []⟩),
 (50, ⟨false, 1, [], 0, 0, 0, 0, [.nilp], 8, .i64, none, []⟩),
 (51, ⟨true, 6, [(0, 1), (1, 1), (2, 1), (3, 1), (4, 1), (5, 1)], 0, 0, 0, 0, [.int .i64 0, .nils, .nils, .nils, .nilp, .nils], 1, .i64, none, [3, 49, 49, 22, 50, 30]⟩),
 (52, ⟨true, 6, [(0, 1), (1, 1), (2, 1), (3, 1), (4, 1), (5, 1)], 0, 0, 0, 0, [.int .i64 0, .nils, .nils, .nils, .nilp, .nils], 1, .i64, none, [3, 49, 49, 22, 50, 30]⟩),
 (54, ⟨false, 1, [], 0, 0, 0, 0, [.nilfn], 9, .i64, none, []⟩),
 (55, ⟨false, 1, [], 0, 0, 0, 0, [.nilfn], 9, .i64, none, []⟩),
 (57, ⟨false, 1, [], 0, 0, 0, 0, [.nilfn], 9, .i64, none, []⟩),
 (58, ⟨false, 1, [], 0, 0, 0, 0, [.nilfn], 9, .i64, none, []⟩),
 (59, ⟨false, 1, [], 0, 0, 0, 0, [.nilfn], 9, .i64, none, []⟩),
 (60, ⟨false, 1, [], 0, 0, 0, 0, [.nilfn], 9, .i64, none, []⟩),
 (61, ⟨false, 1, [], 0, 0, 0, 0, [.nilfn], 9, .i64, none, []⟩),
 (62, ⟨false, 1, [], 0, 0, 0, 0, [.nilfn], 9, .i64, none, []⟩),
 (63, ⟨false, 1, [], 0, 0, 0, 0, [.nilfn], 9, .i64, none, []⟩),
 (64, ⟨false, 1, [], 0, 0, 0, 0, [.nilp], 8, .i64, none, []⟩),
 (65, ⟨true, 2, [(0, 1), (1, 1)], 0, 0, 0, 0, [.int .i64 0, .int .i64 0], 1, .i64, some [5, 5], [3, 3]⟩),
 (66, ⟨true, 2, [(0, 1), (1, 1)], 0, 0, 0, 0, [.int .i64 0, .int .i64 0], 1, .i64, some [5, 5], [3, 3]⟩),
 (68, ⟨false, 1, [], 0, 0, 0, 0, [.nilfn], 9, .i64, none, []⟩),
 (69, ⟨false, 1, [], 4, 1, 1, 0, [.nils], 3, .i64, none, []⟩),
 (70, ⟨false, 1, [], 0, 0, 0, 0, [.nilfn], 9, .i64, none, []⟩),
 (71, ⟨false, 1, [], 0, 0, 0, 0, [.nilfn], 9, .i64, none, []⟩),
 (72, ⟨false, 1, [], 0, 0, 0, 0, [.nilfn], 9, .i64, none, []⟩),
 (73, ⟨false, 1, [], 0, 0, 0, 0, [.nilfn], 9, .i64, none, []⟩),
 (74, ⟨false, 1, [], 0, 0, 0, 0, [.nilfn], 9, .i64, none, []⟩),
 (75, ⟨false, 1, [], 88, 0, 0, 3, [.nilm], 7, .i64, none, []⟩),
 (76, ⟨false, 1, [], 0, 0, 0, 0, [.nilfn], 9, .i64, none, []⟩),
 (77, ⟨false, 1, [], 0, 0, 0, 0, [.nilfn], 9, .i64, none, []⟩),
 (78, ⟨false, 1, [], 0, 0, 0, 0, [.nilfn], 9, .i64, none, []⟩),
 (79, ⟨false, 1, [], 3, 0, 0, 3, [.nilm], 7, .i64, none, []⟩),
 (80, ⟨true, 2, [(0, 1), (1, 1)], 0, 0, 0, 0, [.nils, .nilm], 1, .i64, none, [25, 79]⟩),
 (81, ⟨true, 2, [(0, 1), (1, 1)], 0, 0, 0, 0, [.nils, .nilm], 1, .i64, none, [25, 79]⟩),
 (83, ⟨false, 1, [], 0, 0, 0, 0, [.nilfn], 9, .i64, none, []⟩),
 (85, ⟨false, 1, [], 0, 0, 0, 0, [.nilfn], 9, .i64, none, []⟩),
 (86, ⟨false, 1, [], 4, 0, 0, 3, [.nilm], 7, .i64, none, []⟩),
 (87, ⟨true, 2, [(0, 1), (1, 1)], 0, 0, 0, 0, [.int .i64 0, .int .i64 0], 1, .i64, some [5, 5], [3, 3]⟩),
 (88, ⟨true, 2, [(0, 1), (1, 1)], 0, 0, 0, 0, [.int .i64 0, .int .i64 0], 1, .i64, some [5, 5], [3, 3]⟩),
 (89, ⟨false, 1, [], 0, 0, 0, 0, [.nilfn], 9, .i64, none, []⟩),
 (90, ⟨false, 1, [], 0, 0, 0, 0, [.nilfn], 9, .i64, none, []⟩),
 (91, ⟨false, 1, [], 0, 0, 0, 0, [.int .u64 0], 5, .u64, some [5], []⟩),
 (92, ⟨false, 1, [], 0, 0, 0, 0, [.nilfn], 9, .i64, none, []⟩),
 (93, ⟨false, 1, [], 0, 0, 0, 0, [.nilfn], 9, .i64, none, []⟩),
 (94, ⟨false, 1, [], 0, 0, 0, 0, [.nilfn], 9, .i64, none, []⟩),
 (95, ⟨false, 1, [], 0, 0, 0, 0, [.nilfn], 9, .i64, none, []⟩),
 (96, ⟨false, 1, [], 25, 1, 24, 0, [.nils], 3, .i64, none, []⟩),
 (97, ⟨true, 2, [(0, 1), (1, 1)], 0, 0, 0, 0, [.nils, .nils], 1, .i64, none, [96, 96]⟩),
 (98, ⟨true, 2, [(0, 1), (1, 1)], 0, 0, 0, 0, [.nils, .nils], 1, .i64, none, [96, 96]⟩),
 (99, ⟨false, 1, [], 0, 0, 0, 0, [.nilfn], 9, .i64, none, []⟩),
 (100, ⟨false, 1, [], 0, 0, 0, 0, [.nilfn], 9, .i64, none, []⟩),
 (101, ⟨true, 7, [(0, 1), (1, 1), (2, 1), (3, 1), (4, 1), (5, 1), (6, 1)], 0, 0, 0, 0, [.nilp, .nilm, .nilm, .nils, .nils, .int .i64 0, .bool false], 1, .i64, none, [50, 79, 79, 96, 96, 3, 4]⟩),
 (102, ⟨true, 7, [(0, 1), (1, 1), (2, 1), (3, 1), (4, 1), (5, 1), (6, 1)], 0, 0, 0, 0, [.nilp, .nilm, .nilm, .nils, .nils, .int .i64 0, .bool false], 1, .i64, none, [50, 79, 79, 96, 96, 3, 4]⟩),
 (103, ⟨false, 1, [], 0, 0, 0, 0, [.nilfn], 9, .i64, none, []⟩),
 (104, ⟨false, 1, [], 0, 0, 0, 0, [.nilp], 8, .i64, none, []⟩),
 (107, ⟨false, 1, [], 0, 0, 0, 0, [.nilfn], 9, .i64, none, []⟩),
 (108, ⟨false, 1, [], 0, 0, 0, 0, [.nilfn], 9, .i64, none, []⟩),
 (109, ⟨false, 1, [], 0, 0, 0, 0, [.nilfn], 9, .i64, none, []⟩),
 (110, ⟨false, 1, [], 0, 0, 0, 0, [.nilfn], 9, .i64, none, []⟩),
 (111, ⟨true, 5, [(0, 1), (1, 1), (2, 1), (3, 1), (4, 1)], 0, 0, 0, 0, [.int .i64 0, .int .i64 0, .int .i64 0, .int .i64 0, .int .i64 0], 1, .i64, some [5, 5, 5, 5, 5], [3, 3, 3, 3, 3]⟩),
 (112, ⟨true, 5, [(0, 1), (1, 1), (2, 1), (3, 1), (4, 1)], 0, 0, 0, 0, [.int .i64 0, .int .i64 0, .int .i64 0, .int .i64 0, .int .i64 0], 1, .i64, some [5, 5, 5, 5, 5], [3, 3, 3, 3, 3]⟩),
 (113, ⟨false, 1, [], 0, 0, 0, 0, [.nilfn], 9, .i64, none, []⟩),
 (114, ⟨false, 1, [], 0, 0, 0, 0, [.nilfn], 9, .i64, none, []⟩),
 (115, ⟨false, 1, [], 0, 0, 0, 0, [.nilfn], 9, .i64, none, []⟩),
 (116, ⟨false, 1, [], 0, 0, 0, 0, [.nilfn], 9, .i64, none, []⟩),
 (117, ⟨false, 1, [], 0, 0, 0, 0, [.nilfn], 9, .i64, none, []⟩),
 (118, ⟨false, 1, [], 0, 0, 0, 0, [.nilfn], 9, .i64, none, []⟩),
 (119, ⟨false, 1, [], 0, 0, 0, 0, [.nilfn], 9, .i64, none, []⟩),
 (120, ⟨false, 1, [], 0, 0, 0, 0, [.int .i64 0], 5, .i64, some [5], []⟩),
 (122, ⟨false, 1, [], 0, 0, 0, 0, [.nilfn], 9, .i64, none, []⟩),
 (123, ⟨false, 1, [], 0, 0, 0, 0, [.nilfn], 9, .i64, none, []⟩),
 (124, ⟨false, 1, [], 0, 0, 0, 0, [.nilfn], 9, .i64, none, []⟩),
 (125, ⟨false, 1, [], 0, 0, 0, 0, [.nilfn], 9, .i64, none, []⟩),
 (126, ⟨false, 1, [], 0, 0, 0, 0, [.nilfn], 9, .i64, none, []⟩),
 (127, ⟨false, 1, [], 0, 0, 0, 0, [.int .u32 0], 5, .u32, some [5], []⟩),
 (128, ⟨false, 1, [], 0, 0, 0, 0, [.nilfn], 9, .i64, none, []⟩),
 (129, ⟨false, 1, [], 0, 0, 0, 0, [.int .u64 0], 5, .u64, some [5], []⟩),
 (130, ⟨false, 1, [], 0, 0, 0, 0, [.nilfn], 9, .i64, none, []⟩),
 (131, ⟨false, 1, [], 0, 0, 0, 0, [.nilfn], 9, .i64, none, []⟩),
 (132, ⟨false, 1, [], 0, 0, 0, 0, [.nilfn], 9, .i64, none, []⟩),
 (133, ⟨false, 1, [], 0, 0, 0, 0, [.nilfn], 9, .i64, none, []⟩),
 (134, ⟨false, 1, [], 0, 0, 0, 0, [.nilfn], 9, .i64, none, []⟩),
 (135, ⟨false, 1, [], 0, 0, 0, 0, [.nilfn], 9, .i64, none, []⟩),
 (136, ⟨false, 1, [], 0, 0, 0, 0, [.nilfn], 9, .i64, none, []⟩),
 (137, ⟨false, 1, [], 0, 0, 0, 0, [.nilfn], 9, .i64, none, []⟩),
 (138, ⟨false, 1, [], 0, 0, 0, 0, [.nilfn], 9, .i64, none, []⟩),
 (139, ⟨false, 1, [], 0, 0, 0, 0, [.nilfn], 9, .i64, none, []⟩),
 (140, ⟨false, 1, [], 0, 0, 0, 0, [.nilfn], 9, .i64, none, []⟩),
 (141, ⟨false, 1, [], 0, 0, 0, 0, [.nilfn], 9, .i64, none, []⟩),
 (142, ⟨false, 1, [], 0, 0, 0, 0, [.nilp], 8, .i64, none, []⟩),
 (143, ⟨false, 1, [], 147, 0, 0, 3, [.nilm], 7, .i64, none, []⟩),
 (144, ⟨true, 7, [(0, 5), (5, 1), (6, 1)], 0, 0, 0, 0, [.int .i64 0, .int .i64 0, .int .i64 0, .int .i64 0, .int .i64 0, .nilp, .nilm], 1, .i64, none, [112, 50, 143]⟩),
 (145, ⟨true, 7, [(0, 5), (5, 1), (6, 1)], 0, 0, 0, 0, [.int .i64 0, .int .i64 0, .int .i64 0, .int .i64 0, .int .i64 0, .nilp, .nilm], 1, .i64, none, [112, 50, 143]⟩),
 (146, ⟨true, 2, [(0, 1), (1, 1)], 0, 0, 0, 0, [.int .i64 0, .int .i64 0], 1, .i64, some [5, 5], [3, 3]⟩),
 (147, ⟨true, 2, [(0, 1), (1, 1)], 0, 0, 0, 0, [.int .i64 0, .int .i64 0], 1, .i64, some [5, 5], [3, 3]⟩),
 (148, ⟨false, 1, [], 0, 0, 0, 0, [.nilfn], 9, .i64, none, []⟩),
 (149, ⟨false, 1, [], 0, 0, 0, 0, [.int .u64 0], 5, .u64, some [5], []⟩),
 (150, ⟨false, 1, [], 0, 0, 0, 0, [.nilfn], 9, .i64, none, []⟩),
 (151, ⟨false, 1, [], 0, 0, 0, 0, [.nilfn], 9, .i64, none, []⟩),
 (152, ⟨false, 1, [], 0, 0, 0, 0, [.nilfn], 9, .i64, none, []⟩),
 (153, ⟨false, 1, [], 0, 0, 0, 0, [.nilp], 8, .i64, none, []⟩),
 (154, ⟨false, 1, [], 0, 0, 0, 0, [.nilfn], 9, .i64, none, []⟩),
 (155, ⟨false, 1, [], 0, 0, 0, 0, [.nilfn], 9, .i64, none, []⟩),
 (156, ⟨false, 1, [], 0, 0, 0, 0, [.nilfn], 9, .i64, none, []⟩),
 (157, ⟨true, 2, [(0, 1), (1, 1)], 0, 0, 0, 0, [.int .i64 0, .int .i64 0], 1, .i64, some [5, 5], [3, 3]⟩),
 (158, ⟨true, 2, [(0, 1), (1, 1)], 0, 0, 0, 0, [.int .i64 0, .int .i64 0], 1, .i64, some [5, 5], [3, 3]⟩),
 (159, ⟨false, 1, [], 0, 0, 0, 0, [.nilfn], 9, .i64, none, []⟩),
 (160, ⟨false, 1, [], 0, 0, 0, 0, [.nilfn], 9, .i64, none, []⟩),
 (162, ⟨false, 1, [], 0, 0, 0, 0, [.nilp], 8, .i64, none, []⟩),
 (163, ⟨false, 1, [], 0, 0, 0, 0, [.nilfn], 9, .i64, none, []⟩),
 (164, ⟨false, 1, [], 0, 0, 0, 0, [.nilfn], 9, .i64, none, []⟩),
 (165, ⟨false, 1, [], 0, 0, 0, 0, [.nilfn], 9, .i64, none, []⟩),
 (166, ⟨false, 1, [], 0, 0, 0, 0, [.nilfn], 9, .i64, none, []⟩),
 (167, ⟨false, 1, [], 0, 0, 0, 0, [.nilfn], 9, .i64, none, []⟩),
 (168, ⟨false, 1, [], 0, 0, 0, 0, [.nilfn], 9, .i64, none, []⟩),
 (169, ⟨false, 1, [], 0, 0, 0, 0, [.nilfn], 9, .i64, none, []⟩),
 (170, ⟨false, 1, [], 0, 0, 0, 0, [.nilfn], 9, .i64, none, []⟩),
 (171, ⟨false, 1, [], 0, 0, 0, 0, [.nilfn], 9, .i64, none, []⟩),
 (172, ⟨false, 1, [], 0, 0, 0, 0, [.nilfn], 9, .i64, none, []⟩),
 (173, ⟨false, 1, [], 0, 0, 0, 0, [.nilfn], 9, .i64, none, []⟩),
 (174, ⟨false, 1, [], 0, 0, 0, 0, [.nilfn], 9, .i64, none, []⟩),
 (175, ⟨false, 1, [], 0, 0, 0, 0, [.nilfn], 9, .i64, none, []⟩),
 (178, ⟨true, 0, [], 16, 1, 8, 0, [], 2, .i64, none, []⟩),
 (183, ⟨false, 1, [], 0, 0, 0, 0, [.nilfn], 9, .i64, none, []⟩),
 (184, ⟨false, 1, [], 0, 0, 0, 0, [.nilp], 8, .i64, none, []⟩),
 (187, ⟨true, 11, [(0, 1), (1, 1), (2, 1), (3, 1), (4, 1), (5, 1), (6, 1), (7, 1), (8, 1), (9, 1), (10, 1)], 0, 0, 0, 0, [.int .u64 0, .int .u64 0, .int .u32 0, .int .u8 0, .int .u8 0, .int .u8 0, .int .u8 0, .nilfn, .nilp, .int .i32 0, .int .i32 0], 1, .i64, none, [12, 12, 127, 181, 5, 5, 182, 183, 184, 185, 186]⟩),
 (189, ⟨false, 1, [], 0, 0, 0, 0, [.nilp], 0, .i64, none, []⟩)
]
theorem ttok : TTok Tryz.prog tt := TTok.of_map (by kernel_rfl)
end Go.Proofs.YtnkbkfjgbejhfaaGreat
namespace Go.HeapL
/-! ### A heap as a list: plain laws -/
abbrev It := Int × Int
def gt (L : List It) (i : Nat) : It := L.getD i (0, 0)
def lt (a b : It) : Bool := decide (a.1 < b.1) || (decide (a.1 = b.1) && decide (a.2 < b.2))
def sw (L : List It) (i k : Nat) : List It := (L.set i (gt L k)).set k (gt L i)
theorem lt_iff {a b : It} : lt a b = true ↔ a.1 < b.1 ∨ (a.1 = b.1 ∧ a.2 < b.2) := by simp [lt]
theorem nlt_iff {a b : It} : lt a b = false ↔ b.1 < a.1 ∨ (a.1 = b.1 ∧ b.2 ≤ a.2) := by
 rw [← Bool.not_eq_true, lt_iff]; omega
theorem gt_eq {L : List It} {i : Nat} (h : i < L.length) : gt L i = L[i] := by
 unfold gt; rw [List.getD_eq_getElem?_getD, List.getElem?_eq_getElem h]; rfl
theorem gt_set {L : List It} {i j : Nat} {x : It} (h : i < L.length) : gt (L.set i x) j = if j = i then x else gt L j := by
 unfold gt
 rw [List.getD_eq_getElem?_getD, List.getElem?_set, List.getD_eq_getElem?_getD]
 by_cases e : i = j
 ·subst e; simp [h]
 ·rw [if_neg e, if_neg (fun h => e h.symm)]
theorem sw_len (L : List It) (i k : Nat) : (sw L i k).length = L.length := by simp [sw]
theorem gt_sw {L : List It} {i k j : Nat} (hi : i < L.length) (hk : k < L.length) : gt (sw L i k) j = if j = k then gt L i else if j = i then gt L k else gt L j := by
 unfold sw
 rw [gt_set (by simpa using hk), gt_set hi]
theorem sw_perm {L : List It} {i k : Nat} (hi : i < L.length) (hk : k < L.length) : (sw L i k).Perm L := by
 unfold sw; rw [gt_eq hi, gt_eq hk]; exact List.set_set_perm hi hk
def up (L : List It) (i : Nat) : List It :=
 if h : 0 < i ∧ lt (gt L i) (gt L ((i - 1) / 2)) = true then up (sw L i ((i - 1) / 2)) ((i - 1) / 2) else L
termination_by i
decreasing_by omega
def c1 (L : List It) (i : Nat) : Nat := if 2 * i + 1 < L.length ∧ lt (gt L (2 * i + 1)) (gt L i) = true then 2 * i + 1 else i
def c2 (L : List It) (i a : Nat) : Nat := if 2 * i + 2 < L.length ∧ lt (gt L (2 * i + 2)) (gt L a) = true then 2 * i + 2 else a
def ch (L : List It) (i : Nat) : Nat := c2 L i (c1 L i)
theorem c1_cases (L : List It) (i : Nat) : (c1 L i = i ∧ ∀ j, j = 2 * i + 1 → j < L.length → lt (gt L j) (gt L i) = false) ∨ (c1 L i = 2 * i + 1 ∧ 2 * i + 1 < L.length ∧ lt (gt L (2 * i + 1)) (gt L i) = true) := by
 unfold c1
 split
 ·rename_i h; exact .inr ⟨rfl, h⟩
 ·rename_i h; exact .inl ⟨rfl, fun j e hj => by subst e; rw [← Bool.not_eq_true]; exact fun k => h ⟨hj, k⟩⟩
theorem c2_cases (L : List It) (i a : Nat) : (c2 L i a = a ∧ ∀ j, j = 2 * i + 2 → j < L.length → lt (gt L j) (gt L a) = false) ∨ (c2 L i a = 2 * i + 2 ∧ 2 * i + 2 < L.length ∧ lt (gt L (2 * i + 2)) (gt L a) = true) := by
 unfold c2
 split
 ·rename_i h; exact .inr ⟨rfl, h⟩
 ·rename_i h; exact .inl ⟨rfl, fun j e hj => by subst e; rw [← Bool.not_eq_true]; exact fun k => h ⟨hj, k⟩⟩
theorem ch_cases (L : List It) (i : Nat) : ch L i = i ∨ (i < ch L i ∧ ch L i < L.length ∧ (ch L i - 1) / 2 = i) := by
 unfold ch
 rcases c1_cases L i with ⟨e, _⟩ | ⟨e, h1, _⟩ <;> rcases c2_cases L i (c1 L i) with ⟨f, _⟩ | ⟨f, h2, _⟩ <;> rw [f] <;> (try rw [e]) <;> omega
def dn (L : List It) (i : Nat) : List It :=
 if h : ch L i = i then L else dn (sw L i (ch L i)) (ch L i)
termination_by L.length - i
decreasing_by rw [sw_len]; have := ch_cases L i; omega
theorem ch_min (L : List It) (i j : Nat) (hj : j < L.length) (h : (j - 1) / 2 = i) (h0 : 0 < j) : lt (gt L j) (gt L (ch L i)) = false := by
 have hj2 : j = 2 * i + 1 ∨ j = 2 * i + 2 := by omega
 unfold ch
 rcases c1_cases L i with ⟨e, k1⟩ | ⟨e, h1, k1⟩ <;> rcases c2_cases L i (c1 L i) with ⟨f, k2⟩ | ⟨f, h2, k2⟩ <;> rw [f] <;> rw [e] at k2 <;> (try rw [e])
 ·rcases hj2 with hj2 | hj2
  ·exact k1 j hj2 hj
  ·exact k2 j hj2 hj
 ·rcases hj2 with hj2 | hj2
  ·have := k1 j hj2 hj
   rw [nlt_iff] at *; rw [lt_iff] at k2; omega
  ·subst hj2; rw [nlt_iff]; omega
 ·rcases hj2 with hj2 | hj2
  ·subst hj2; rw [nlt_iff]; omega
  ·exact k2 j hj2 hj
 ·rcases hj2 with hj2 | hj2
  ·subst hj2; rw [nlt_iff]; rw [lt_iff] at k2; omega
  ·subst hj2; rw [nlt_iff]; omega
theorem ch_le (L : List It) (i : Nat) : lt (gt L i) (gt L (ch L i)) = false := by
 unfold ch
 rcases c1_cases L i with ⟨e, k1⟩ | ⟨e, h1, k1⟩ <;> rcases c2_cases L i (c1 L i) with ⟨f, k2⟩ | ⟨f, h2, k2⟩ <;> rw [f] <;> rw [e] at k2 <;> (try rw [e])
 ·rw [nlt_iff]; omega
 ·rw [nlt_iff]; rw [lt_iff] at k2; omega
 ·rw [nlt_iff]; rw [lt_iff] at k1; omega
 ·rw [nlt_iff]; rw [lt_iff] at k1 k2; omega
def Hp (L : List It) : Prop := ∀ j, 0 < j → j < L.length → lt (gt L j) (gt L ((j - 1) / 2)) = false
def HU (L : List It) (i : Nat) : Prop := (∀ j, 0 < j → j < L.length → j ≠ i → lt (gt L j) (gt L ((j - 1) / 2)) = false) ∧
 ∀ j, 0 < j → j < L.length → (j - 1) / 2 = i → 0 < i → lt (gt L j) (gt L ((i - 1) / 2)) = false
def HD (L : List It) (i : Nat) : Prop := (∀ j, 0 < j → j < L.length → (j - 1) / 2 ≠ i → lt (gt L j) (gt L ((j - 1) / 2)) = false) ∧
 ∀ j, 0 < j → j < L.length → (j - 1) / 2 = i → 0 < i → lt (gt L j) (gt L ((i - 1) / 2)) = false
theorem up_hp : ∀ (i : Nat) (L : List It), i < L.length → HU L i → Hp (up L i) := by
 intro i
 induction i using Nat.strongRecOn with
 | _ i ih =>
  intro L hi h
  rw [up]
  split
  ·rename_i hc
   obtain ⟨h0, hl⟩ := hc
   have hp : (i - 1) / 2 < i := by omega
   refine ih _ hp _ (by rw [sw_len]; omega) ⟨?_, ?_⟩
   ·intro j j0 jl jn
    rw [sw_len] at jl
    rw [gt_sw hi (by omega), gt_sw hi (by omega)]
    rw [if_neg jn]
    rw [lt_iff] at hl
    by_cases e : j = i
    ·subst e
     rw [if_pos rfl, if_pos rfl, nlt_iff]; omega
    ·rw [if_neg e]
     by_cases e1 : (j - 1) / 2 = (i - 1) / 2
     ·rw [if_pos e1]
      have := h.1 j j0 jl e
      rw [e1, nlt_iff] at this
      rw [nlt_iff]; omega
     ·rw [if_neg e1]
      by_cases e2 : (j - 1) / 2 = i
      ·rw [if_pos e2]
       exact h.2 j j0 jl e2 h0
      ·rw [if_neg e2]; exact h.1 j j0 jl e
   ·intro j j0 jl jp p0
    rw [sw_len] at jl
    have hpp : ((i - 1) / 2 - 1) / 2 < (i - 1) / 2 := by omega
    have hq := h.1 ((i - 1) / 2) p0 (by omega) (by omega)
    rw [nlt_iff] at hq
    rw [gt_sw hi (by omega), gt_sw hi (by omega), if_neg (by omega : ¬ j = (i - 1) / 2)]
    rw [if_neg (by omega : ¬ ((i - 1) / 2 - 1) / 2 = (i - 1) / 2), if_neg (by omega : ¬ ((i - 1) / 2 - 1) / 2 = i)]
    by_cases e : j = i
    ·rw [if_pos e, nlt_iff]; omega
    ·rw [if_neg e]
     have := h.1 j j0 jl e
     rw [jp, nlt_iff] at this
     rw [nlt_iff]; omega
  ·rename_i hc
   intro j j0 jl
   by_cases e : j = i
   ·subst e
    rw [← Bool.not_eq_true]; intro h3; exact hc ⟨j0, h3⟩
   ·exact h.1 j j0 jl e
theorem up_perm : ∀ (i : Nat) (L : List It), i < L.length → (up L i).Perm L := by
 intro i
 induction i using Nat.strongRecOn with
 | _ i ih =>
  intro L hi
  rw [up]
  split
  ·rename_i hc
   exact (ih ((i - 1) / 2) (by omega) _ (by rw [sw_len]; omega)).trans (sw_perm hi (by omega))
  ·exact .refl _
theorem dn_hp : ∀ (n i : Nat) (L : List It), L.length - i ≤ n → i < L.length → HD L i → Hp (dn L i) := by
 intro n
 induction n with
 | zero => intro i L h1 h2; omega
 | succ n ih =>
  intro i L hn hi h
  rw [dn]
  split
  ·rename_i hc
   intro j j0 jl
   by_cases e : (j - 1) / 2 = i
   ·have := ch_min L i j jl e j0
    rw [hc] at this
    rw [e]; exact this
   ·exact h.1 j j0 jl e
  ·rename_i hc
   rcases ch_cases L i with hk | ⟨k1, k2, k3⟩
   ·exact absurd hk hc
   ·have hle := ch_le L i
    have hmin := ch_min L i
    generalize ch L i = k at *
    refine ih k _ (by rw [sw_len]; omega) (by rw [sw_len]; exact k2) ⟨?_, ?_⟩
    ·intro j j0 jl jp
     rw [sw_len] at jl
     rw [gt_sw hi k2, gt_sw hi k2, if_neg jp]
     by_cases e : j = k
     ·subst e
      rw [if_pos rfl, k3, if_pos rfl]; exact hle
     ·rw [if_neg e]
      by_cases e1 : j = i
      ·subst e1
       rw [if_pos rfl, if_neg (by omega : ¬ (j - 1) / 2 = j)]
       exact h.2 k (by omega) k2 k3 j0
      ·rw [if_neg e1]
       by_cases e2 : (j - 1) / 2 = i
       ·rw [if_pos e2]; exact hmin j jl e2 j0
       ·rw [if_neg e2]; exact h.1 j j0 jl e2
    ·intro j j0 jl jp k0
     rw [sw_len] at jl
     rw [gt_sw hi k2, gt_sw hi k2, if_neg (by omega : ¬ j = k), if_neg (by omega : ¬ j = i), if_neg (by omega : ¬ (k - 1) / 2 = k), if_pos k3]
     have := h.1 j j0 jl (by omega)
     rw [jp] at this; exact this
theorem dn_perm : ∀ (n i : Nat) (L : List It), L.length - i ≤ n → i < L.length → (dn L i).Perm L := by
 intro n
 induction n with
 | zero => intro i L h1 h2; omega
 | succ n ih =>
  intro i L hn hi
  rw [dn]
  split
  ·exact .refl _
  ·rename_i hc
   rcases ch_cases L i with hk | ⟨k1, k2, k3⟩
   ·exact absurd hk hc
   ·exact (ih _ _ (by rw [sw_len]; omega) (by rw [sw_len]; exact k2)).trans (sw_perm hi k2)
theorem up_len {L : List It} {i : Nat} (h : i < L.length) : (up L i).length = L.length := (up_perm i L h).length_eq
theorem hp_top {L : List It} (h : Hp L) : ∀ j, j < L.length → lt (gt L j) (gt L 0) = false := by
 intro j
 induction j using Nat.strongRecOn with
 | _ j ih =>
  intro hj
  by_cases h0 : j = 0
  ·subst h0; rw [nlt_iff]; omega
  ·have h1 := h j (by omega) hj
   have h2 := ih ((j - 1) / 2) (by omega) (by omega)
   rw [nlt_iff] at *; omega
/-- An item changes: it rises, and sinks, to its place. -/
theorem hp_hd {L : List It} (h : Hp L) (i : Nat) : HD L i := by
 refine ⟨fun j a b _ => h j a b, fun j a b c d => ?_⟩
 have h1 := h j a b
 have h2 := h i d (by omega)
 rw [c] at h1
 rw [nlt_iff] at *; omega
theorem set_hp {L : List It} (h : Hp L) {i : Nat} (hi : i < L.length) (x : It) :
  (up (L.set i x) i = L.set i x ∧ HD (L.set i x) i) ∨ Hp (up (L.set i x) i) := by
 have hs : ∀ j, gt (L.set i x) j = if j = i then x else gt L j := fun j => gt_set hi
 have hgp : ∀ j, 0 < j → j < L.length → (j - 1) / 2 = i → 0 < i → lt (gt L j) (gt L ((i - 1) / 2)) = false := (hp_hd h i).2
 by_cases hc : 0 < i ∧ lt (gt (L.set i x) i) (gt (L.set i x) ((i - 1) / 2)) = true
 ·right
  refine up_hp i _ (by simpa using hi) ⟨fun j a b c => ?_, fun j a b c d => ?_⟩
  ·simp only [List.length_set] at b
   rw [hs, hs, if_neg c]
   split
   ·rename_i e
    have h1 := hgp j a b e hc.1
    have h2 := hc.2
    rw [hs, hs, if_pos rfl, if_neg (by omega), lt_iff] at h2
    rw [nlt_iff] at *; omega
   ·exact h j a b
  ·simp only [List.length_set] at b
   rw [hs, hs, if_neg (by omega), if_neg (by omega)]
   exact hgp j a b c d
 ·left
  refine ⟨by rw [up, dif_neg hc], fun j a b c => ?_, fun j a b c d => ?_⟩
  ·simp only [List.length_set] at b
   rw [hs, hs, if_neg c]
   split
   ·rename_i e
    subst e
    rw [← Bool.not_eq_true]
    intro e
    refine hc ⟨a, ?_⟩
    rw [hs, hs, if_pos rfl, if_neg c]
    exact e
   ·exact h j a b
  ·simp only [List.length_set] at b
   rw [hs, hs, if_neg (by omega), if_neg (by omega)]
   exact hgp j a b c d
theorem push_hp {L : List It} (h : Hp L) (x : It) : Hp (up (L ++ [x]) L.length) := by
 refine up_hp _ _ (by simp) ⟨fun j a b c => ?_, fun j a b c d => ?_⟩
 ·simp only [List.length_append, List.length_singleton] at b
  have hj : j < L.length := by omega
  have e : ∀ t, t < L.length → gt (L ++ [x]) t = gt L t := fun t ht => by
   unfold gt; rw [List.getD_eq_getElem?_getD, List.getD_eq_getElem?_getD, List.getElem?_append_left ht]
  rw [e j hj, e _ (by omega)]; exact h j a hj
 ·simp only [List.length_append, List.length_singleton] at b
  omega
theorem dn_id {L : List It} (h : Hp L) (i : Nat) (hi : i < L.length) : Hp (dn L i) := dn_hp _ i L (Nat.le_refl _) hi (hp_hd h i)
end Go.HeapL
namespace Go.HeapL
/-! ### A heap as a list: an item is put in, the least one is taken -/
def hasL (L : List It) (v : Int) : Bool := L.any fun x => x.2 == v
def ix (L : List It) (v : Int) : Nat := L.findIdx fun x => x.2 == v
def Nd (L : List It) : Prop := (L.map (·.2)).Nodup
theorem hasL_iff {L : List It} {v : Int} : hasL L v = true ↔ ∃ k, (k, v) ∈ L := by
 unfold hasL
 rw [List.any_eq_true]
 constructor
 ·rintro ⟨⟨k, u⟩, h, e⟩; have e := eq_of_beq e; simp only at e; subst e; exact ⟨k, h⟩
 ·rintro ⟨k, h⟩; exact ⟨(k, v), h, by simp⟩
theorem ix_lt {L : List It} {v : Int} (h : hasL L v = true) : ix L v < L.length := by
 unfold ix hasL at *
 rw [List.findIdx_lt_length]
 rw [List.any_eq_true] at h
 exact h
theorem ix_at {L : List It} {v : Int} (h : hasL L v = true) : (gt L (ix L v)).2 = v := by
 have h1 := ix_lt h
 rw [gt_eq h1]
 have := List.findIdx_getElem (xs := L) (p := fun x : It => x.2 == v) (w := by unfold ix at h1; exact h1)
 exact eq_of_beq this
theorem nd_inj {L : List It} (h : Nd L) {i j : Nat} (hi : i < L.length) (hj : j < L.length) (e : (gt L i).2 = (gt L j).2) : i = j := by
 unfold Nd at h
 rw [gt_eq hi, gt_eq hj] at e
 rw [List.nodup_iff_pairwise_ne, List.pairwise_iff_getElem] at h
 rcases Nat.lt_trichotomy i j with hlt | rfl | hlt
 ·exact absurd (by rw [List.getElem_map, List.getElem_map]; exact e) (h i j (by simpa using hi) (by simpa using hj) hlt)
 ·rfl
 ·exact absurd (by rw [List.getElem_map, List.getElem_map]; exact e.symm) (h j i (by simpa using hj) (by simpa using hi) hlt)
theorem mem_gt {L : List It} {i : Nat} (h : i < L.length) : gt L i ∈ L := by rw [gt_eq h]; exact List.getElem_mem _
theorem mem_at {L : List It} {x : It} (h : x ∈ L) : ∃ i, i < L.length ∧ gt L i = x := by
 obtain ⟨i, hi, e⟩ := List.getElem_of_mem h
 exact ⟨i, hi, by rw [gt_eq hi]; exact e⟩
theorem has_at {L : List It} {i : Nat} (h : i < L.length) : hasL L (gt L i).2 = true := hasL_iff.2 ⟨(gt L i).1, mem_gt h⟩
theorem ix_gt {L : List It} (h : Nd L) {i : Nat} (hi : i < L.length) : ix L (gt L i).2 = i :=
 nd_inj h (ix_lt (has_at hi)) hi (ix_at (has_at hi))
theorem nd_perm {L M : List It} (h : L.Perm M) : Nd L ↔ Nd M := (h.map (fun x : It => x.2)).nodup_iff
theorem has_perm {L M : List It} (h : L.Perm M) (v : Int) : hasL L v = hasL M v := by
 rw [Bool.eq_iff_iff, hasL_iff, hasL_iff]
 exact ⟨fun ⟨k, hk⟩ => ⟨k, h.mem_iff.1 hk⟩, fun ⟨k, hk⟩ => ⟨k, h.mem_iff.2 hk⟩⟩
theorem nd_key {L : List It} (h : Nd L) {k k' v : Int} (h1 : (k, v) ∈ L) (h2 : (k', v) ∈ L) : k = k' := by
 obtain ⟨i, hi, e⟩ := mem_at h1
 obtain ⟨j, hj, f⟩ := mem_at h2
 have := nd_inj h hi hj (by rw [e, f])
 subst this
 rw [e] at f; cases f; rfl
def hset (L : List It) (x : It) : List It :=
 if hasL L x.2 = true then
  if (gt L (ix L x.2)).1 = x.1 then L else dn (up (L.set (ix L x.2) x) (ix L x.2)) (ix (up (L.set (ix L x.2) x) (ix L x.2)) x.2)
 else dn (up (L ++ [x]) L.length) (ix (up (L ++ [x]) L.length) x.2)
theorem set_nd {L : List It} (h : Nd L) {i : Nat} (hi : i < L.length) {x : It} (e : (gt L i).2 = x.2) : Nd (L.set i x) := by
 unfold Nd at *
 rw [List.map_set, ← e]
 rw [gt_eq hi]
 have : (L.map (·.2)).set i (L[i]).2 = L.map (·.2) := by
  apply List.ext_getElem (by simp)
  intro j h1 h2
  rw [List.getElem_set]
  split
  ·rename_i e; subst e; simp
  ·rfl
 rw [this]; exact h
theorem mem_set' {L : List It} (h : Nd L) {i : Nat} (hi : i < L.length) {x : It} (e : (gt L i).2 = x.2) (k v : Int) : (k, v) ∈ L.set i x ↔ (v = x.2 ∧ k = x.1) ∨ (v ≠ x.2 ∧ (k, v) ∈ L) := by
 constructor
 ·intro hm
  obtain ⟨j, hj, f⟩ := mem_at hm
  rw [gt_set hi] at f
  simp only [List.length_set] at hj
  split at f
  ·subst f; exact .inl ⟨rfl, rfl⟩
  ·rename_i hne
   right
   refine ⟨fun ev => hne ?_, by rw [← f]; exact mem_gt hj⟩
   exact nd_inj h hj hi (by rw [f, e]; exact ev)
 ·rintro (⟨h1, h2⟩ | ⟨h1, h2⟩)
  ·have : (k, v) = gt (L.set i x) i := by rw [gt_set hi, if_pos rfl, h1, h2]
   rw [this]; exact mem_gt (by simpa using hi)
  ·obtain ⟨j, hj, f⟩ := mem_at h2
   have hne : j ≠ i := fun e' => by subst e'; rw [f] at e; exact h1 e
   have : (k, v) = gt (L.set i x) j := by rw [gt_set hi, if_neg hne, f]
   rw [this]; exact mem_gt (by simpa using hj)
theorem up_ok {M : List It} {i : Nat} (hi : i < M.length) (hn : Nd M) {x : It} (hx : gt M i = x) (hc : (up M i = M ∧ HD M i) ∨ Hp (up M i)) :
  Hp (dn (up M i) (ix (up M i) x.2)) ∧ (dn (up M i) (ix (up M i) x.2)).Perm M := by
 have hp := up_perm i M hi
 have hh : hasL (up M i) x.2 = true := by rw [has_perm hp, ← hx]; exact has_at hi
 have hl := ix_lt hh
 refine ⟨?_, (dn_perm _ _ _ (Nat.le_refl _) hl).trans hp⟩
 rcases hc with ⟨e, hd⟩ | hd
 ·rw [e, ← hx, ix_gt hn hi]; exact dn_hp _ _ _ (Nat.le_refl _) hi hd
 ·exact dn_id hd _ hl
theorem hset_ok {L : List It} (hp : Hp L) (hn : Nd L) (x : It) : Hp (hset L x) ∧ Nd (hset L x) ∧ ∀ k v, (k, v) ∈ hset L x ↔ (v = x.2 ∧ k = x.1) ∨ (v ≠ x.2 ∧ (k, v) ∈ L) := by
 unfold hset
 by_cases hh : hasL L x.2 = true
 ·rw [if_pos hh]
  have hl := ix_lt hh
  have ha := ix_at hh
  split
  ·rename_i he
   refine ⟨hp, hn, fun k v => ?_⟩
   have hm : (x.1, x.2) ∈ L := by
    have := mem_gt hl
    have e : gt L (ix L x.2) = (x.1, x.2) := Prod.ext he ha
    rw [e] at this; exact this
   constructor
   ·intro h
    by_cases e : v = x.2
    ·subst e; exact .inl ⟨rfl, nd_key hn h hm⟩
    ·exact .inr ⟨e, h⟩
   ·rintro (⟨h1, h2⟩ | ⟨_, h⟩)
    ·rw [h1, h2]; exact hm
    ·exact h
  ·rename_i he
   have hn' := set_nd hn hl (x := x) ha
   have hi' : ix L x.2 < (L.set (ix L x.2) x).length := by simpa using hl
   have hx : gt (L.set (ix L x.2) x) (ix L x.2) = x := by rw [gt_set hl, if_pos rfl]
   obtain ⟨h1, h2⟩ := up_ok hi' hn' hx (set_hp hp hl x)
   exact ⟨h1, (nd_perm h2).2 hn', fun k v => (h2.mem_iff).trans (mem_set' hn hl ha k v)⟩
 ·rw [if_neg hh]
  have hi' : L.length < (L ++ [x]).length := by simp
  have hx : gt (L ++ [x]) L.length = x := by rw [gt_eq hi']; simp
  have hno : ∀ k, (k, x.2) ∉ L := fun k h => hh (hasL_iff.2 ⟨k, h⟩)
  have hn' : Nd (L ++ [x]) := by
   unfold Nd at *
   rw [List.map_append, List.nodup_append]
   refine ⟨hn, by simp, ?_⟩
   intro a ha b hb
   simp only [List.map_cons, List.map_nil, List.mem_singleton] at hb
   subst hb
   rw [List.mem_map] at ha
   obtain ⟨⟨k, u⟩, hm, e⟩ := ha
   intro e'
   simp only at e; subst e; subst e'
   exact hno k hm
  obtain ⟨h1, h2⟩ := up_ok hi' hn' hx (.inr (push_hp hp x))
  refine ⟨h1, (nd_perm h2).2 hn', fun k v => (h2.mem_iff).trans ?_⟩
  rw [List.mem_append, List.mem_singleton]
  constructor
  ·rintro (h | h)
   ·exact .inr ⟨fun e => by subst e; exact hno k h, h⟩
   ·cases h; exact .inl ⟨rfl, rfl⟩
  ·rintro (⟨h1, h2⟩ | ⟨_, h⟩)
   ·exact .inr (Prod.ext h2 h1)
   ·exact .inl h
def hpop (L : List It) : List It := dn (sw L 0 (L.length - 1)).dropLast 0
theorem gt_drop {L : List It} {j : Nat} (h : j + 1 < L.length) : gt L.dropLast j = gt L j := by
 rw [gt_eq (by simp; omega), gt_eq (by omega), List.getElem_dropLast]
theorem drop_perm {L : List It} (h : 0 < L.length) : (gt L (L.length - 1) :: L.dropLast).Perm L := by
 have e : L = L.dropLast ++ [gt L (L.length - 1)] := by
  rw [gt_eq (by omega)]
  have := List.dropLast_concat_getLast (l := L) (fun e => by subst e; simp at h)
  rw [List.getLast_eq_getElem] at this
  exact this.symm
 generalize gt L (L.length - 1) = z at *
 generalize L.dropLast = M at *
 subst e
 exact (List.perm_append_comm (l₁ := M) (l₂ := [z])).symm
theorem hpop_perm {L : List It} (h : 0 < L.length) : (gt L 0 :: hpop L).Perm L := by
 have h1 : (sw L 0 (L.length - 1)).Perm L := sw_perm h (by omega)
 have h2 := drop_perm (L := sw L 0 (L.length - 1)) (by rw [sw_len]; exact h)
 rw [sw_len, gt_sw h (by omega), if_pos rfl] at h2
 have h3 : (hpop L).Perm (sw L 0 (L.length - 1)).dropLast := by
  unfold hpop
  by_cases h0 : 0 < (sw L 0 (L.length - 1)).dropLast.length
  ·exact dn_perm _ _ _ (Nat.le_refl _) h0
  ·have : (sw L 0 (L.length - 1)).dropLast = [] := List.eq_nil_of_length_eq_zero (by omega)
   rw [this, dn, dif_pos (by simp [ch, c2, c1])]
 exact (h3.cons _).trans (h2.trans h1)
theorem hpop_ok {L : List It} (h : 0 < L.length) (hp : Hp L) (hn : Nd L) : Hp (hpop L) ∧ Nd (hpop L) ∧ ∀ k v, (k, v) ∈ hpop L ↔ (v ≠ (gt L 0).2 ∧ (k, v) ∈ L) := by
 have hpm := hpop_perm h
 have hn2 : Nd (gt L 0 :: hpop L) := (nd_perm hpm).2 hn
 refine ⟨?_, ?_, ?_⟩
 ·unfold hpop
  by_cases h0 : 0 < (sw L 0 (L.length - 1)).dropLast.length
  ·refine dn_hp _ _ _ (Nat.le_refl _) h0 ⟨fun j a b c => ?_, fun j a b c d => absurd d (by omega)⟩
   simp only [List.length_dropLast, sw_len] at b
   rw [gt_drop (by rw [sw_len]; omega), gt_drop (by rw [sw_len]; omega), gt_sw h (by omega), gt_sw h (by omega)]
   rw [if_neg (by omega), if_neg (by omega), if_neg (by omega), if_neg c]
   exact hp j a (by omega)
  ·have : (sw L 0 (L.length - 1)).dropLast = [] := List.eq_nil_of_length_eq_zero (by omega)
   rw [this, dn, dif_pos (by simp [ch, c2, c1])]
   intro j a b; simp at b
 ·unfold Nd at *; rw [List.map_cons, List.nodup_cons] at hn2; exact hn2.2
 ·intro k v
  have hm := hpm.mem_iff (a := (k, v))
  rw [List.mem_cons] at hm
  unfold Nd at hn2; rw [List.map_cons, List.nodup_cons] at hn2
  constructor
  ·intro h1
   exact ⟨fun e => hn2.1 (List.mem_map.2 ⟨(k, v), h1, e⟩), hm.1 (.inr h1)⟩
  ·rintro ⟨h1, h2⟩
   rcases hm.2 h2 with e | e
   ·exact absurd (by rw [← e]) h1
   ·exact e
theorem hpop_len {L : List It} (h : 0 < L.length) : (hpop L).length + 1 = L.length := by
 have := (hpop_perm h).length_eq
 simpa using this
end Go.HeapL
namespace Go.HeapL
/-! ### A graph's hierarchy: the plain model -/
structure Lk where
 f : Int
 t : Int
 w : Int
 m : Int
 deriving Inhabited
/-- A map of steps: to where, with the weight and the vertex between. -/
abbrev Mp := Int → Option (Int × Int)
abbrev OE := Int → Mp
def itM (n : Nat) (m : Mp) : List It := (List.range n).filterMap fun (u : Nat) => (m (u : Int)).map fun s => (s.1, (u : Int))
def inM (o : OE) (v : Int) : Mp := fun u => o u v
/-! A short search. -/
structure WS where
 L : List It
 c : Mp
def wkp (past most : Int) (S : WS) (v cost : Int) : Bool := decide (v = past) || (decide (most < cost) || (match S.c v with
 | some k => decide (k.1 ≤ cost)
 | none => false))
def wupd (S : WS) (v cost hops : Int) : WS := ⟨hset S.L (cost, v), fun x => if x = v then some (cost, hops) else S.c x⟩
def wrch (past most : Int) (S : WS) (v cost hops : Int) : WS := match wkp past most S v cost with
 | true => S
 | false => wupd S v cost hops
def whp (S : WS) (v : Int) : Int := match S.c v with
 | some k => k.2
 | none => 0
def wst1 (past most key hops : Int) (S : WS) (a : It) : WS := match decide (a.1 ≤ most - key) with
 | true => wrch past most S a.2 (key + a.1) (hops + 1)
 | false => S
def wrlx (past most key hops : Int) (l : List It) (S : WS) : WS := l.foldl (wst1 past most key hops) S
def wpop (S : WS) : WS := ⟨hpop S.L, S.c⟩
def wstep (past most H : Int) (lk : Int → List It) (S : WS) : WS := match decide (whp S (gt S.L 0).2 = H) with
 | true => wpop S
 | false => wrlx past most (gt S.L 0).1 (whp S (gt S.L 0).2) (lk (gt S.L 0).2) (wpop S)
def wrun (past most H : Int) (lk : Int → List It) : Nat → WS → List It → List It
 | 0, _, l => l
 | k + 1, S, l => match decide (0 < S.L.length) with
  | true => wrun past most H lk k (wstep past most H lk S) (l ++ [gt S.L 0])
  | false => l
def ws0 : WS := ⟨[], fun _ => none⟩
def limM (n : Nat) : Int := if n ≤ 50 then (n : Int) + 1 else 5
def cntM (n : Nat) : Nat := if n ≤ 50 then n + 1 else 50
def witM (n : Nat) (o : OE) (fr past most : Int) : List It := match decide (most < 0) || decide (fr = past) with
 | true => []
 | false => wrun past most (limM n) (fun u => itM n (o u)) (cntM n) (wrch past most ws0 fr 0 0) []
def othM (n : Nat) (o : OE) (v a b c : Int) : Bool := (witM n o a v c).any fun x => x.2 == b
/-! The shortcuts that are needed, and a vertex's priority. -/
def mxC : Int := 1152921504606846976
def bdI (l : List It) : Bool := decide (l.length ≤ 500) && l.all fun x => decide (0 ≤ x.1) && decide (x.1 ≤ mxC)
def need1 (v : Int) (oth : Int → Int → Int → Bool) (a b : It) : List Lk := match decide (a.2 = b.2) || oth a.2 b.2 (a.1 + b.1) with
 | true => []
 | false => [⟨a.2, b.2, a.1 + b.1, v⟩]
def needL (v : Int) (oth : Int → Int → Int → Bool) (ins outs : List It) : List Lk := match bdI ins && bdI outs with
 | true => ins.flatMap fun a => outs.flatMap fun b => need1 v oth a b
 | false => []
def needM (n : Nat) (o : OE) (v : Int) : List Lk := needL v (othM n o v) (itM n (inM o v)) (itM n (o v))
def prio (k a g : Int) : Int := match decide (k < 0) || (decide (1000000 < k) || (decide (a < 0) || (decide (1000000 < a) || (decide (g < 0) || decide (1000000 < g))))) with
 | true => 0
 | false => 2 * k - a + g
def prM (n : Nat) (o : OE) (gn : Int → Int) (v : Int) : Int := prio (needM n o v).length ((itM n (inM o v)).length + (itM n (o v)).length) (gn v)
/-! The vertex that goes next. -/
def nextQ (p : Int → Int) : Nat → List It → List It
 | 0, q => q
 | k + 1, q => match decide (0 < q.length) && decide ((gt q 0).1 < p (gt q 0).2) with
  | true => nextQ p k (hset q (p (gt q 0).2, (gt q 0).2))
  | false => q
/-! A vertex goes. -/
def delV (o : OE) (v : Int) : OE := fun a b => if a = v ∨ b = v then none else o a b
def putM (o : OE) (x : Lk) : OE := match (match o x.f x.t with
  | some s => decide (s.1 ≤ x.w)
  | none => false) with
 | true => o
 | false => fun a b => if a = x.f ∧ b = x.t then some (x.w, x.m) else o a b
def goneM (gn : Int → Int) (o : OE) (v : Int) : Int → Int := fun u => gn u + (match (o v u).isSome || (o u v).isSome with
 | true => 1
 | false => 0)
def lkO (v : Int) (m : Mp) (u : Int) : Lk := match m u with
 | some s => ⟨v, u, s.1, s.2⟩
 | none => default
def lkI (v : Int) (m : Mp) (u : Int) : Lk := match m u with
 | some s => ⟨u, v, s.1, s.2⟩
 | none => default
def keptM (n : Nat) (o : OE) (v : Int) : List Lk := (itM n (o v)).map (fun x => lkO v (o v) x.2) ++ (itM n (inM o v)).map (fun x => lkI v (inM o v) x.2)
structure BS where
 o : OE
 gn : Int → Int
 q : List It
 ks : List Lk
 rk : List Int
def qN (n : Nat) (S : BS) : List It := nextQ (prM n S.o S.gn) S.q.length S.q
def topN (n : Nat) (S : BS) : Int := (gt (qN n S) 0).2
def stepB (n : Nat) (i : Int) (S : BS) : BS :=
 ⟨(needM n S.o (topN n S)).foldl putM (delV S.o (topN n S)), goneM S.gn S.o (topN n S), hpop (qN n S), S.ks ++ keptM n S.o (topN n S), S.rk.set (topN n S).toNat i⟩
def itrB (n : Nat) (S : BS) : Nat → BS
 | 0 => S
 | i + 1 => stepB n i (itrB n S i)
/-! The graph: where each vertex's arcs begin, their heads, their weights. -/
structure Gr where
 st : List Int
 hd : List Int
 wt : List Int
def Gr.n (g : Gr) : Nat := g.st.length - 1
def Gr.s (g : Gr) (v : Int) : Int := g.st.getD v.toNat 0
def arcB (g : Gr) (a b : Int) (k : Nat) : Bool := decide (0 ≤ a) && decide (a < g.n) && decide (g.s a ≤ k) && decide ((k : Int) < g.s (a + 1)) && decide (g.hd.getD k 0 = b) && decide (a ≠ b)
def oP (g : Gr) (i : Nat) : OE := fun a b => ((List.range i).find? (arcB g a b)).map fun k => (g.wt.getD k 0, -1)
def q0 (n : Nat) (o : OE) : Nat → List It
 | 0 => []
 | v + 1 => hset (q0 n o v) (prM n o (fun _ => 0) v, v)
def b0 (g : Gr) : BS := ⟨oP g g.hd.length, fun _ => 0, q0 g.n (oP g g.hd.length) g.n, [], List.replicate g.n 0⟩
def ofB (g : Gr) : BS := itrB g.n (b0 g) g.n
end Go.HeapL
namespace Go.Proofs.YtnkbkfjgbejhfaaGreat
open Go.Proofs.YtnkbkfjgbejhfaaGreat.Am
variable [Inhabited DRT]
variable {G : GInv}
abbrev Lk := Go.HeapL.Lk
def lkA (x : Lk) : List A := [.int .i64 x.f, .int .i64 x.t, .int .i64 x.w, .int .i64 x.m]
def lksA (l : List Lk) : A := .sl l.length 4 fun i => [.int .i64 (l.getD i default).f, .int .i64 (l.getD i default).t, .int .i64 (l.getD i default).w, .int .i64 (l.getD i default).m]
def intsA (l : List Int) : A := .sl l.length 1 fun i => [.int .i64 (l.getD i 0)]
theorem i64_in {n : Int} (h : -9223372036854775808 ≤ n ∧ n ≤ 9223372036854775807) : IntKind.i64.wrap n = n := by rw [IntKind.wrap_i64]; omega
theorem vertex_c (rk : List Int) (ls : List Lk) (v : Int) : ACalls Tryz.prog G 93 [.agg [intsA rk, lksA ls], .int .i64 v] (.sb (decide (0 ≤ v) && decide (v < rk.length))) := by
 refine ACalls.of_WA ttok Tryz.func93 rfl rfl 12 rfl ?_
 conv => whnf
 repeat' (first | refine sq ?_ | refine bk ?_ | ((first | refine rg ttok ?_ | refine dw ttok mixed ?_ | refine cd ?_ | refine sk ?_ | refine xt ?_ | refine rt ?_); conv => whnf) | (refine And.intro (fun h => ?_) (fun h => ?_) <;> (try simp only [brsA] at h) <;> conv => whnf) | ((first | refine wf ?_ | refine wp' ?_ | refine ai ?_ | refine And.intro rfl ?_ | refine an ?_ | fail); conv => whnf))
 all_goals simp_all
 all_goals omega
/-- Ranks are each there once. -/
def RanksP (l : List Int) : Prop := ∀ i, i < l.length → (0 ≤ l.getD i 0 ∧ l.getD i 0 < l.length) ∧ ∀ j, j < i → l.getD j 0 ≠ l.getD i 0
instance (l : List Int) : Decidable (RanksP l) := inferInstanceAs (Decidable (∀ i, i < l.length → _))
def metR (l : List Int) (i : Nat) : Nat → List A := fun k => [.sb (decide (∃ j, j < i ∧ l.getD j 0 = (k : Int)))]
theorem ranks_c (l : List Int) (hl : l.length ≤ 1000000) : ACalls Tryz.prog G 72 [intsA l] (.sb (decide (RanksP l))) := by
 refine ACalls.of_WA ttok Tryz.func72 rfl rfl _ rfl ?_
 conv => whnf
 repeat' (first | refine sq ?_ | refine bk ?_ | ((first | refine rg ttok ?_ | refine dw ttok mixed ?_ | refine cd ?_ | refine sk ?_ | refine xt ?_ | refine rt ?_); conv => whnf) | (refine And.intro (fun h => ?_) (fun h => ?_) <;> (try simp only [brsA] at h) <;> conv => whnf) | ((first | refine wf ?_ | refine wp' ?_ | refine ai ?_ | refine And.intro rfl ?_ | refine an ?_ | fail); conv => whnf))
 refine WA_loopI (fun i : Nat => i ≤ l.length ∧ ∀ k, k < i → (0 ≤ l.getD k 0 ∧ l.getD k 0 < l.length) ∧ ∀ j, j < k → l.getD j 0 ≠ l.getD k 0) (fun i => [(11, .int .i64 (i : Int))]) (fun i => [.row 4 1 l.length (metR l i)]) (fun i => l.length - i) 0 ⟨by omega, fun k hk => by omega⟩ ?_ ?_
 ·conv => whnf
  repeat (first | exact fa | ((first | refine fb ?_ | (refine And.intro ?_ ?_; rotate_left)); conv => whnf))
  exact Or.inr fun k hk => by simp [metR, fitA.fitL, fitA, andL]
 ·rintro i ⟨hi, hinv⟩
  conv => whnf
  repeat' (first | refine sq ?_ | refine bk ?_ | ((first | refine rg ttok ?_ | refine dw ttok mixed ?_ | refine cd ?_ | refine sk ?_ | refine xt ?_ | refine rt ?_); conv => whnf) | (refine And.intro (fun h => ?_) (fun h => ?_) <;> (try simp only [brsA] at h) <;> conv => whnf) | ((first | refine wf ?_ | refine wp' ?_ | refine ai ?_ | refine And.intro rfl ?_ | refine an ?_ | fail); conv => whnf))
  ·rename_i g1 g2 g3
   have g2 : ¬ l.getD i 0 < 0 := g2
   have h : ∃ j, j < i ∧ l.getD j 0 = ((l.getD i 0).toNat : Int) := h
   refine (decide_eq_false fun hR => ?_).symm
   obtain ⟨j, hj, he⟩ := h
   exact (hR i (by omega)).2 j hj (by omega)
  ·rename_i g1 g2 g3
   have g2 : ¬ l.getD i 0 < 0 := g2
   have g3 : ¬ (l.length : Int) ≤ l.getD i 0 := g3
   have h : ¬ ∃ j, j < i ∧ l.getD j 0 = ((l.getD i 0).toNat : Int) := h
   refine ⟨i + 1, ⟨by omega, fun k hk => ?_⟩, (by show l.length - (i + 1) < l.length - i; omega), ?_⟩
   ·rcases Nat.lt_or_ge k i with hk' | hk'
    ·exact hinv k hk'
    ·have : k = i := by omega
     subst this
     exact ⟨by omega, fun j hj he => h ⟨j, hj, by omega⟩⟩
   ·conv => whnf
    repeat (first | exact fa | ((first | refine fb ?_ | (refine And.intro ?_ ?_; rotate_left)); conv => whnf))
    ·refine Or.inr fun k hk => ?_
     have hn : ((l.getD i 0).toNat : Int) = l.getD i 0 := by omega
     show andL (fitA.fitL 4 0 (updRow (metR l i) (l.getD i 0).toNat [.bool true] k) (metR l (i + 1) k))
     have key : (decide (∃ j, j < i + 1 ∧ l.getD j 0 = (k : Int))) = (decide (∃ j, j < i ∧ l.getD j 0 = (k : Int)) || decide (l.getD i 0 = (k : Int))) := by
      rw [← Bool.decide_or]
      apply decide_eq_decide.2
      constructor
      ·rintro ⟨j, h1, h2⟩
       rcases Nat.lt_or_ge j i with h3 | h3
       ·exact .inl ⟨j, h3, h2⟩
       ·have : j = i := by omega
        subst this; exact .inr h2
      ·rintro (⟨j, h1, h2⟩ | h2)
       ·exact ⟨j, by omega, h2⟩
       ·exact ⟨i, by omega, h2⟩
     simp only [updRow, metR, key]
     split
     ·rename_i hkk
      have : l.getD i 0 = (k : Int) := by omega
      rw [decide_eq_true this, Bool.or_true]
      exact rfl
     ·rename_i hkk
      have : ¬ l.getD i 0 = (k : Int) := by omega
      rw [decide_eq_false this, Bool.or_false]
      exact rfl
  ·rename_i g1 g2
   have h : (l.length : Int) ≤ l.getD i 0 := h
   exact (decide_eq_false fun hR => by have := (hR i (by omega)).1; omega).symm
  ·rename_i g1
   have h : l.getD i 0 < 0 := h
   exact (decide_eq_false fun hR => by have := (hR i (by omega)).1; omega).symm
  ·exact (decide_eq_true fun k hk => hinv k (by omega)).symm
end Go.Proofs.YtnkbkfjgbejhfaaGreat
namespace Go.Proofs.YtnkbkfjgbejhfaaGreat
open Go.Proofs.YtnkbkfjgbejhfaaGreat.Am
variable [Inhabited DRT]
variable {G : GInv}
def cmpI (a b : Int) : Int := if a < b then -1 else if b < a then 1 else 0
theorem isNaN_c (a : Int) : ACalls Tryz.prog G 71 [.int .i64 a] (.sb false) := by
 refine ACalls.of_WA ttok Tryz.func71 rfl rfl _ rfl ?_
 conv => whnf
 repeat' (first | refine sq ?_ | refine bk ?_ | ((first | refine rg ttok ?_ | refine dw ttok mixed ?_ | refine cd ?_ | refine sk ?_ | refine xt ?_ | refine rt ?_); conv => whnf) | (refine And.intro (fun h => ?_) (fun h => ?_) <;> (try simp only [brsA] at h) <;> conv => whnf) | ((first | refine wf ?_ | refine wp' ?_ | refine ai ?_ | refine And.intro rfl ?_ | refine an ?_ | fail); conv => whnf))
 all_goals simp_all
theorem compare_c (a b : Int) : ACalls Tryz.prog G 42 [.int .i64 a, .int .i64 b] (.int .i64 (cmpI a b)) := by
 refine ACalls.of_WA ttok Tryz.func42 rfl rfl _ rfl ?_
 conv => whnf
 repeat' (first | refine sq ?_ | refine bk ?_ | ((first | refine rg ttok ?_ | refine dw ttok mixed ?_ | refine cd ?_ | refine sk ?_ | refine xt ?_ | refine rt ?_); conv => whnf) | (refine And.intro (fun h => ?_) (fun h => ?_) <;> (try simp only [brsA] at h) <;> conv => whnf) | (refine Or.inl ?_; (conv => whnf); refine ⟨_, isNaN_c _, ?_⟩; conv => whnf) | ((first | refine wf ?_ | refine wp' ?_ | refine ai ?_ | refine And.intro rfl ?_ | refine an ?_ | fail); conv => whnf))
 all_goals simp only [cmpI]
 all_goals first | contradiction | (split <;> first | rfl | omega | (split <;> first | rfl | omega)) | skip
/-- The first number that is not nought. -/
def firstNZ : List Int → Int
 | [] => 0
 | x :: xs => if x = 0 then firstNZ xs else x
theorem firstNZ_drop (l : List Int) : ∀ i, i ≤ l.length → (∀ k, k < i → l.getD k 0 = 0) → firstNZ l = firstNZ (l.drop i)
 | 0, _, _ => by simp
 | i + 1, h, hz => by
  rw [firstNZ_drop l i (by omega) (fun k hk => hz k (by omega))]
  have h0 := hz i (by omega)
  rw [List.drop_eq_getElem_cons (show i < l.length by omega)]
  rw [List.getD_eq_getElem?_getD, List.getElem?_eq_getElem (show i < l.length by omega)] at h0
  simp only [Option.getD_some] at h0
  simp [firstNZ, h0]
theorem or_c (l : List Int) (hl : l.length ≤ 1000000) : ACalls Tryz.prog G 41 [intsA l] (.int .i64 (firstNZ l)) := by
 refine ACalls.of_WA ttok Tryz.func41 rfl rfl _ rfl ?_
 conv => whnf
 repeat' (first | refine sq ?_ | refine bk ?_ | ((first | refine rg ttok ?_ | refine dw ttok mixed ?_ | refine cd ?_ | refine sk ?_ | refine xt ?_ | refine rt ?_); conv => whnf) | (refine And.intro (fun h => ?_) (fun h => ?_) <;> (try simp only [brsA] at h) <;> conv => whnf) | ((first | refine wf ?_ | refine wp' ?_ | refine ai ?_ | refine And.intro rfl ?_ | refine an ?_ | fail); conv => whnf))
 refine WA_loopI (fun i : Nat => i ≤ l.length ∧ ∀ k, k < i → l.getD k 0 = 0) (fun i => [(8, .int .i64 (i : Int))]) (fun _ => []) (fun i => l.length - i) 0 ⟨by omega, fun k hk => by omega⟩ ?_ ?_
 ·conv => whnf
  repeat (first | exact fa | ((first | refine fb ?_ | (refine And.intro ?_ ?_; rotate_left)); conv => whnf))
 ·rintro i ⟨hi, hz⟩
  conv => whnf
  repeat' (first | refine sq ?_ | refine bk ?_ | ((first | refine rg ttok ?_ | refine dw ttok mixed ?_ | refine cd ?_ | refine sk ?_ | refine xt ?_ | refine rt ?_); conv => whnf) | (refine And.intro (fun h => ?_) (fun h => ?_) <;> (try simp only [brsA] at h) <;> conv => whnf) | ((first | refine wf ?_ | refine wp' ?_ | refine ai ?_ | refine And.intro rfl ?_ | refine an ?_ | fail); conv => whnf))
  ·have h : ¬ l.getD i 0 = 0 := h
   rw [firstNZ_drop l i (by omega) hz, List.drop_eq_getElem_cons (show i < l.length by omega)]
   rw [List.getD_eq_getElem?_getD, List.getElem?_eq_getElem (show i < l.length by omega)] at h
   simp only [Option.getD_some] at h
   simp [firstNZ, h]
   simp [show i < l.length by omega]
  ·have h : l.getD i 0 = 0 := h
   refine ⟨i + 1, ⟨by omega, fun k hk => ?_⟩, (by show l.length - (i + 1) < l.length - i; omega), ?_⟩
   ·rcases Nat.lt_or_ge k i with h' | h'
    ·exact hz k h'
    ·have : k = i := by omega
     subst this; omega
   ·conv => whnf
    repeat (first | exact fa | ((first | refine fb ?_ | (refine And.intro ?_ ?_; rotate_left)); conv => whnf))
  ·rw [firstNZ_drop l i (by omega) hz, List.drop_of_length_le (by omega)]
   rfl
end Go.Proofs.YtnkbkfjgbejhfaaGreat
namespace Go.Proofs.YtnkbkfjgbejhfaaGreat
open Go.Proofs.YtnkbkfjgbejhfaaGreat.Am
variable [Inhabited DRT]
variable {G : GInv}
def ordI (x : Lk) (a b : Int) : Int := firstNZ [cmpI x.f a, cmpI x.t b]
theorem mixed : Tryz.prog.follows .mixedOrders = true := by kernel_rfl
theorem order_c (x : Lk) (a b : Int) : ACalls Tryz.prog G 94 [.agg (lkA x), .agg [.int .i64 a, .int .i64 b]] (.int .i64 (ordI x a b)) := by
 refine ACalls.of_WA ttok Tryz.func94 rfl rfl _ rfl ?_
 conv => whnf
 repeat' (first | refine sq ?_ | refine bk ?_ | ((first | refine rg ttok ?_ | refine dw ttok mixed ?_ | refine cd ?_ | refine sk ?_ | refine xt ?_ | refine rt ?_); conv => whnf) | (refine And.intro (fun h => ?_) (fun h => ?_) <;> (try simp only [brsA] at h) <;> conv => whnf) | ((first | refine wf ?_ | refine wp' ?_ | refine ai ?_ | refine And.intro rfl ?_ | refine an ?_ | fail); conv => whnf))
 repeat' (first | refine sq ?_ | refine bk ?_ | ((first | refine rg ttok ?_ | refine dw ttok mixed ?_ | refine cd ?_ | refine sk ?_ | refine xt ?_ | refine rt ?_); conv => whnf) | (refine And.intro (fun h => ?_) (fun h => ?_) <;> (try simp only [brsA] at h) <;> conv => whnf) | (refine Or.inl ?_; (conv => whnf); refine ⟨_, compare_c _ _, ?_⟩; conv => whnf) | ((first | refine wf ?_ | refine wp' ?_ | refine ai ?_ | refine And.intro rfl ?_ | refine an ?_ | fail); conv => whnf))
 refine Or.inl ?_
 conv => whnf
 refine ⟨_, (or_c [cmpI x.f a, cmpI x.t b] (by simp)).fit ?_, rfl, ?_⟩
 ·conv => whnf
  refine ⟨rfl, Or.inl fun i hi => ?_⟩
  match i, hi with
  | 0, _ => rfl
  | 1, _ => rfl
 ·conv => whnf
  repeat' (first | refine sq ?_ | refine bk ?_ | ((first | refine rg ttok ?_ | refine dw ttok mixed ?_ | refine cd ?_ | refine sk ?_ | refine xt ?_ | refine rt ?_); conv => whnf) | (refine And.intro (fun h => ?_) (fun h => ?_) <;> (try simp only [brsA] at h) <;> conv => whnf) | ((first | refine wf ?_ | refine wp' ?_ | refine ai ?_ | refine And.intro rfl ?_ | refine an ?_ | fail); conv => whnf))
  rfl
end Go.Proofs.YtnkbkfjgbejhfaaGreat
namespace Go.Proofs.YtnkbkfjgbejhfaaGreat
open Go.Proofs.YtnkbkfjgbejhfaaGreat.Am
variable [Inhabited DRT]
variable {G : GInv}
/-- The first place that a law holds at, or -1. -/
def firstAt (p : Nat → Bool) : Nat → Nat → Int
 | 0, _ => -1
 | n + 1, i => if p i = true then (i : Int) else firstAt p n (i + 1)
def isL (ls : List Lk) (a b : Int) (i : Nat) : Bool := decide ((ls.getD i default).f = a) && decide ((ls.getD i default).t = b)
theorem firstAt_step (p : Nat → Bool) {n i : Nat} (h : i < n) : firstAt p (n - i) i = if p i = true then (i : Int) else firstAt p (n - (i + 1)) (i + 1) := by
 rw [show n - i = (n - (i + 1)) + 1 by omega, firstAt]
theorem refLink_c (ls : List Lk) (a b : Int) (hl : ls.length ≤ 1000000) : ACalls Tryz.prog G 44 [lksA ls, .int .i64 a, .int .i64 b] (.int .i64 (firstAt (isL ls a b) ls.length 0)) := by
 refine ACalls.of_WA ttok Tryz.func44 rfl rfl _ rfl ?_
 conv => whnf
 repeat' (first | refine sq ?_ | refine bk ?_ | ((first | refine rg ttok ?_ | refine dw ttok mixed ?_ | refine cd ?_ | refine sk ?_ | refine xt ?_ | refine rt ?_); conv => whnf) | (refine And.intro (fun h => ?_) (fun h => ?_) <;> (try simp only [brsA] at h) <;> conv => whnf) | ((first | refine wf ?_ | refine wp' ?_ | refine ai ?_ | refine And.intro rfl ?_ | refine an ?_ | fail); conv => whnf))
 refine WA_loopI (fun i : Nat => i ≤ ls.length ∧ firstAt (isL ls a b) ls.length 0 = firstAt (isL ls a b) (ls.length - i) i) (fun i => [(7, .int .i64 (i : Int))]) (fun _ => []) (fun i => ls.length - i) 0 ⟨by omega, rfl⟩ ?_ ?_
 ·conv => whnf
  repeat (first | exact fa | ((first | refine fb ?_ | (refine And.intro ?_ ?_; rotate_left)); conv => whnf))
 ·rintro i ⟨hi, he⟩
  conv => whnf
  repeat' (first | refine sq ?_ | refine bk ?_ | ((first | refine rg ttok ?_ | refine dw ttok mixed ?_ | refine cd ?_ | refine sk ?_ | refine xt ?_ | refine rt ?_); conv => whnf) | (refine And.intro (fun h => ?_) (fun h => ?_) <;> (try simp only [brsA] at h) <;> conv => whnf) | ((first | refine wf ?_ | refine wp' ?_ | refine ai ?_ | refine And.intro rfl ?_ | refine an ?_ | fail); conv => whnf))
  ·rename_i g1 g2
   have g2 : (ls.getD i default).f = a := g2
   have h : (ls.getD i default).t = b := h
   rw [he, firstAt_step _ (show i < ls.length by omega), if_pos (by simp only [isL, g2, h]; simp)]
  ·rename_i g1 g2
   have g2 : (ls.getD i default).f = a := g2
   have h : ¬ (ls.getD i default).t = b := h
   refine ⟨i + 1, ⟨by omega, by rw [he, firstAt_step _ (show i < ls.length by omega), if_neg (by simp only [isL, h]; simp)]⟩, (by show ls.length - (i + 1) < ls.length - i; omega), ?_⟩
   conv => whnf
   repeat (first | exact fa | ((first | refine fb ?_ | (refine And.intro ?_ ?_; rotate_left)); conv => whnf))
  ·rename_i g1
   have h : ¬ (ls.getD i default).f = a := h
   refine ⟨i + 1, ⟨by omega, by rw [he, firstAt_step _ (show i < ls.length by omega), if_neg (by simp only [isL, h]; simp)]⟩, (by show ls.length - (i + 1) < ls.length - i; omega), ?_⟩
   conv => whnf
   repeat (first | exact fa | ((first | refine fb ?_ | (refine And.intro ?_ ?_; rotate_left)); conv => whnf))
  ·rw [he, show ls.length - i = 0 by omega]; rfl
end Go.Proofs.YtnkbkfjgbejhfaaGreat
namespace Go.Proofs.YtnkbkfjgbejhfaaGreat
open Go.Proofs.YtnkbkfjgbejhfaaGreat.Am
variable [Inhabited DRT]
variable {G : GInv}
/-- Binary search: how far the law holds. -/
def bsF (p : Nat → Bool) : Nat → Nat → Nat → Nat
 | 0, lo, _ => lo
 | f + 1, lo, hi => if lo < hi then (if p ((lo + hi) / 2) = true then bsF p f ((lo + hi) / 2 + 1) hi else bsF p f lo ((lo + hi) / 2)) else lo
theorem bsF_fuel (p : Nat → Bool) : ∀ (f g lo hi : Nat), hi - lo ≤ f → hi - lo ≤ g → bsF p f lo hi = bsF p g lo hi
 | 0, 0, _, _, _, _ => rfl
 | 0, g + 1, lo, hi, h, _ => by rw [bsF, bsF, if_neg (by omega)]
 | f + 1, 0, lo, hi, _, h => by rw [bsF, bsF, if_neg (by omega)]
 | f + 1, g + 1, lo, hi, h1, h2 => by
  rw [bsF, bsF]
  split
  ·split
   ·exact bsF_fuel p f g _ _ (by omega) (by omega)
   ·exact bsF_fuel p f g _ _ (by omega) (by omega)
  ·rfl
theorem bsF_step (p : Nat → Bool) {lo hi : Nat} (h : lo < hi) : bsF p (hi - lo) lo hi = if p ((lo + hi) / 2) = true then bsF p (hi - ((lo + hi) / 2 + 1)) ((lo + hi) / 2 + 1) hi else bsF p ((lo + hi) / 2 - lo) lo ((lo + hi) / 2) := by
 rw [show hi - lo = (hi - lo - 1) + 1 by omega, bsF, if_pos h]
 split
 ·exact bsF_fuel p _ _ _ _ (by omega) (by omega)
 ·exact bsF_fuel p _ _ _ _ (by omega) (by omega)
def lessL (ls : List Lk) (a b : Int) (i : Nat) : Bool := decide (ordI (ls.getD i default) a b < 0)
def bsL (ls : List Lk) (a b : Int) : Nat := bsF (lessL ls a b) ls.length 0 ls.length
theorem bsearch_c (ls : List Lk) (a b : Int) (hl : ls.length ≤ 1000000) : ACalls Tryz.prog G 103 [lksA ls, .agg [.int .i64 a, .int .i64 b], .fn 94 []]
  (.tup [.int .i64 (bsL ls a b), .sb (decide (bsL ls a b < ls.length) && decide (ordI (ls.getD (bsL ls a b) default) a b = 0))]) := by
 refine ACalls.of_WA ttok Tryz.func103 rfl rfl _ rfl ?_
 conv => whnf
 repeat' (first | refine sq ?_ | refine bk ?_ | ((first | refine rg ttok ?_ | refine dw ttok mixed ?_ | refine cd ?_ | refine sk ?_ | refine xt ?_ | refine rt ?_); conv => whnf) | (refine And.intro (fun h => ?_) (fun h => ?_) <;> (try simp only [brsA] at h) <;> conv => whnf) | (refine Or.inl ?_; (conv => whnf); refine ⟨_, order_c _ _ _, ?_⟩; conv => whnf) | ((first | refine wf ?_ | refine wp' ?_ | refine ai ?_ | refine And.intro rfl ?_ | refine an ?_ | fail); conv => whnf))
 refine WA_loopI (fun x : Nat × Nat => x.1 ≤ x.2 ∧ x.2 ≤ ls.length ∧ bsF (lessL ls a b) (x.2 - x.1) x.1 x.2 = bsL ls a b) (fun x => match x with | (lo, hi) => [(9, .int .i64 (lo : Int)), (10, .int .i64 (hi : Int))]) (fun _ => [.box 158 [.int .i64 a, .int .i64 b]]) (fun x => x.2 - x.1) (0, ls.length) ⟨by simp, by simp, rfl⟩ ?_ ?_
 ·conv => whnf
  repeat (first | exact fa | ((first | refine fb ?_ | (refine And.intro ?_ ?_; rotate_left)); conv => whnf))
 ·rintro ⟨lo, hi⟩ ⟨h1, h2, h3⟩
  have h1 : lo ≤ hi := h1
  have h2 : hi ≤ ls.length := h2
  have h3 : bsF (lessL ls a b) (hi - lo) lo hi = bsL ls a b := h3
  have hm : ((lo : Int) + (hi : Int)).fdiv (2 ^ (min (Int.toNat 1) IntKind.u64.bits)) = (((lo + hi) / 2 : Nat) : Int) := by
   have e2 : (2 : Int) ^ (min (Int.toNat 1) IntKind.u64.bits) = 2 := by decide
   rw [e2, Int.fdiv_eq_ediv_of_nonneg _ (by decide)]
   omega
  conv => whnf
  repeat (first | refine sq ?_ | refine bk ?_ | ((first | refine rg ttok ?_ | refine dw ttok mixed ?_ | refine cd ?_ | refine sk ?_ | refine xt ?_ | refine rt ?_); conv => whnf))
  refine ⟨fun h => ?_, fun h => ?_⟩
  ·have h := of_decide_eq_true h
   have hlt : lo < hi := by omega
   conv => whnf
   refine WA_skip ?_
   conv => whnf
   refine WA_block ?_
   refine WA_seq ?_
   refine WA_region ttok ?_
   conv => whnf
   refine WR_fit (wr_i64 (by omega)) ?_
   conv => whnf
   refine WR_fit (wr_u64 (by omega)) ?_
   conv => whnf
   refine ⟨by decide, ?_⟩
   conv => whnf
   rw [hm]
   repeat' (first | refine sq ?_ | refine bk ?_ | ((first | refine rg ttok ?_ | refine dw ttok mixed ?_ | refine cd ?_ | refine sk ?_ | refine xt ?_ | refine rt ?_); conv => whnf) | (refine And.intro (fun h => ?_) (fun h => ?_) <;> (try simp only [brsA] at h) <;> conv => whnf) | (refine Or.inl ?_; (conv => whnf); refine ⟨_, order_c _ _ _, ?_⟩; conv => whnf) | ((first | refine wf ?_ | refine wp' ?_ | refine ai ?_ | refine And.intro rfl ?_ | refine an ?_ | fail); conv => whnf))
   ·have h : ordI (ls.getD ((lo + hi) / 2) default) a b < 0 := h
    refine ⟨((lo + hi) / 2 + 1, hi), ⟨?_, h2, ?_⟩, ?_, ?_⟩
    ·show (lo + hi) / 2 + 1 ≤ hi; omega
    ·show bsF (lessL ls a b) (hi - ((lo + hi) / 2 + 1)) ((lo + hi) / 2 + 1) hi = bsL ls a b
     rw [← h3, bsF_step _ hlt, if_pos (by simp only [lessL, h, decide_true])]
    ·show hi - ((lo + hi) / 2 + 1) < hi - lo; omega
    ·conv => whnf
     repeat (first | exact fa | ((first | refine fb ?_ | (refine And.intro ?_ ?_; rotate_left)); conv => whnf))
   ·have h : ¬ ordI (ls.getD ((lo + hi) / 2) default) a b < 0 := h
    refine ⟨(lo, (lo + hi) / 2), ⟨?_, ?_, ?_⟩, ?_, ?_⟩
    ·show lo ≤ (lo + hi) / 2; omega
    ·show (lo + hi) / 2 ≤ ls.length; omega
    ·show bsF (lessL ls a b) ((lo + hi) / 2 - lo) lo ((lo + hi) / 2) = bsL ls a b
     rw [← h3, bsF_step _ hlt, if_neg (by simp only [lessL, h, decide_false]; simp)]
    ·show (lo + hi) / 2 - lo < hi - lo; omega
    ·conv => whnf
     repeat (first | exact fa | ((first | refine fb ?_ | (refine And.intro ?_ ?_; rotate_left)); conv => whnf))
  ·have h := of_decide_eq_false h
   have he : lo = bsL ls a b := by
    rw [← h3, show hi - lo = 0 by omega]; rfl
   conv => whnf
   repeat' (first | refine sq ?_ | refine bk ?_ | ((first | refine rg ttok ?_ | refine dw ttok mixed ?_ | refine cd ?_ | refine sk ?_ | refine xt ?_ | refine rt ?_); conv => whnf) | (refine And.intro (fun h => ?_) (fun h => ?_) <;> (try simp only [brsA] at h) <;> conv => whnf) | (refine Or.inl ?_; (conv => whnf); refine ⟨_, order_c _ _ _, ?_⟩; conv => whnf) | ((first | refine wf ?_ | refine wp' ?_ | refine ai ?_ | refine And.intro rfl ?_ | refine an ?_ | fail); conv => whnf))
   ·have hg : (ordI (ls.getD lo default) a b == 0) = decide (ordI (ls.getD lo default) a b = 0) := rfl
    have hd : decide (bsL ls a b < ls.length) = true := decide_eq_true (by omega)
    rw [hd, Bool.true_and, ← he]
    exact hg
   ·have hd : decide (bsL ls a b < ls.length) = false := decide_eq_false (by omega)
    rw [hd, Bool.false_and]
end Go.Proofs.YtnkbkfjgbejhfaaGreat
namespace Go.Proofs.YtnkbkfjgbejhfaaGreat
open Go.Proofs.YtnkbkfjgbejhfaaGreat.Am
variable [Inhabited DRT]
variable {G : GInv}
def okL (n : Nat) (x : Lk) : Prop := (0 ≤ x.f ∧ x.f < n) ∧ (0 ≤ x.t ∧ x.t < n) ∧ x.f ≠ x.t ∧ 0 ≤ x.w ∧ x.w ≤ 1152921504606846976
instance (n : Nat) (x : Lk) : Decidable (okL n x) := inferInstanceAs (Decidable (_ ∧ _))
def okAt (n : Nat) (ls : List Lk) (k : Nat) : Prop := okL n (ls.getD k default) ∧ (0 < k → ordI (ls.getD (k - 1) default) (ls.getD k default).f (ls.getD k default).t < 0)
instance (n : Nat) (ls : List Lk) (k : Nat) : Decidable (okAt n ls k) := inferInstanceAs (Decidable (_ ∧ _))
def SortedP (n : Nat) (ls : List Lk) : Prop := ∀ k, k < ls.length → okAt n ls k
instance (n : Nat) (ls : List Lk) : Decidable (SortedP n ls) := inferInstanceAs (Decidable (∀ k, k < ls.length → _))
theorem find_c (ls : List Lk) (a b : Int) (hl : ls.length ≤ 1000000) : ACalls Tryz.prog G 96 [lksA ls, .int .i64 a, .int .i64 b]
  (.tup [.int .i64 (bsL ls a b), .sb (decide (bsL ls a b < ls.length) && decide (ordI (ls.getD (bsL ls a b) default) a b = 0))]) := by
 refine ACalls.of_WA ttok Tryz.func96 rfl rfl _ rfl ?_
 conv => whnf
 repeat' (first | refine sq ?_ | refine bk ?_ | ((first | refine rg ttok ?_ | refine dw ttok mixed ?_ | refine cd ?_ | refine sk ?_ | refine xt ?_ | refine rt ?_); conv => whnf) | (refine And.intro (fun h => ?_) (fun h => ?_) <;> (try simp only [brsA] at h) <;> conv => whnf) | (refine Or.inl ?_; (conv => whnf); refine ⟨_, bsearch_c _ _ _ hl, ?_⟩; conv => whnf) | ((first | refine wf ?_ | refine wp' ?_ | refine ai ?_ | refine And.intro rfl ?_ | refine an ?_ | fail); conv => whnf))
theorem sorted_c (rk : List Int) (ls : List Lk) (hl : ls.length ≤ 1000000) : ACalls Tryz.prog G 73 [.agg [intsA rk, lksA ls]] (.sb (decide (SortedP rk.length ls))) := by
 refine ACalls.of_WA ttok Tryz.func73 rfl rfl _ rfl ?_
 conv => whnf
 repeat' (first | refine sq ?_ | refine bk ?_ | ((first | refine rg ttok ?_ | refine dw ttok mixed ?_ | refine cd ?_ | refine sk ?_ | refine xt ?_ | refine rt ?_); conv => whnf) | (refine And.intro (fun h => ?_) (fun h => ?_) <;> (try simp only [brsA] at h) <;> conv => whnf) | ((first | refine wf ?_ | refine wp' ?_ | refine ai ?_ | refine And.intro rfl ?_ | refine an ?_ | fail); conv => whnf))
 refine WA_loopI (fun i : Nat => i ≤ ls.length ∧ ∀ k, k < i → okAt rk.length ls k) (fun i => [(8, .int .i64 (i : Int))]) (fun _ => [.box 32 [intsA rk, lksA ls]]) (fun i => ls.length - i) 0 ⟨by omega, fun k hk => by omega⟩ ?_ ?_
 ·conv => whnf
  repeat (first | exact fa | ((first | refine fb ?_ | (refine And.intro ?_ ?_; rotate_left)); conv => whnf))
 ·rintro i ⟨hi, hinv⟩
  conv => whnf
  repeat' (first | refine sq ?_ | refine bk ?_ | ((first | refine rg ttok ?_ | refine dw ttok mixed ?_ | refine cd ?_ | refine sk ?_ | refine xt ?_ | refine rt ?_); conv => whnf) | (refine And.intro (fun h => ?_) (fun h => ?_) <;> (try simp only [brsA] at h) <;> conv => whnf) | (refine Or.inl ?_; (conv => whnf); (first | refine ⟨_, vertex_c _ _ _, ?_⟩ | refine ⟨_, order_c _ _ _, ?_⟩); conv => whnf) | ((first | refine wf ?_ | refine wp' ?_ | refine ai ?_ | refine And.intro rfl ?_ | refine an ?_ | fail); conv => whnf))
  all_goals (have e1 : ((i : Int) - 1).toNat = i - 1 := by omega)
  all_goals (try simp only [brsD] at *)
  all_goals (try simp only [e1] at *)
  all_goals try first
   | (refine (decide_eq_false fun hR => ?_).symm
      obtain ⟨⟨k1, k2, k3, k4, k5⟩, k6⟩ := hR i (by omega)
      first | omega | (have := k6 (by omega); omega))
   | (refine (decide_eq_true fun k hk => hinv k (by omega)).symm)
  all_goals
   refine ⟨i + 1, ⟨by omega, fun k hk => ?_⟩, (by show ls.length - (i + 1) < ls.length - i; omega), ?_⟩
   ·rcases Nat.lt_or_ge k i with hk' | hk'
    ·exact hinv k hk'
    ·have : k = i := by omega
     subst this
     exact ⟨⟨by omega, by omega, by omega, by omega, by omega⟩, fun h0 => by omega⟩
   ·conv => whnf
    repeat (first | exact fa | ((first | refine fb ?_ | (refine And.intro ?_ ?_; rotate_left)); conv => whnf))
end Go.Proofs.YtnkbkfjgbejhfaaGreat
namespace Go.Proofs.YtnkbkfjgbejhfaaGreat
open Go.Proofs.YtnkbkfjgbejhfaaGreat.Am
variable [Inhabited DRT]
variable {G : GInv}
def lexLt (x : Lk) (a b : Int) : Prop := x.f < a ∨ (x.f = a ∧ x.t < b)
theorem ordI_eq (x : Lk) (a b : Int) : ordI x a b = if x.f < a then -1 else if a < x.f then 1 else if x.t < b then -1 else if b < x.t then 1 else 0 := by
 unfold ordI cmpI
 split
 ·simp [firstNZ]
 ·split
  ·simp [firstNZ]
  ·split
   ·simp [firstNZ]
   ·split <;> simp [firstNZ]
theorem ordI_neg (x : Lk) (a b : Int) : ordI x a b < 0 ↔ lexLt x a b := by
 rw [ordI_eq]; unfold lexLt
 repeat' split
 all_goals omega
theorem ordI_zero (x : Lk) (a b : Int) : ordI x a b = 0 ↔ x.f = a ∧ x.t = b := by
 rw [ordI_eq]
 repeat' split
 all_goals omega
theorem rising {n : Nat} {ls : List Lk} (hS : SortedP n ls) : ∀ i d, i + (d + 1) < ls.length → lexLt (ls.getD i default) (ls.getD (i + (d + 1)) default).f (ls.getD (i + (d + 1)) default).t
 | i, 0, h => by
  have := (hS (i + 1) h).2 (by omega)
  rw [ordI_neg] at this
  simpa using this
 | i, d + 1, h => by
  have h1 := rising hS i d (by omega)
  have h2 := (hS (i + (d + 1 + 1)) h).2 (by omega)
  rw [ordI_neg, show i + (d + 1 + 1) - 1 = i + (d + 1) by omega] at h2
  unfold lexLt at *
  omega
theorem bsF_spec (p : Nat → Bool) (n : Nat) (hp : ∀ i j, i ≤ j → j < n → p j = true → p i = true) : ∀ (f lo hi : Nat), hi - lo ≤ f → lo ≤ hi → hi ≤ n → (∀ i, i < lo → p i = true) → (∀ i, hi ≤ i → i < n → p i = false) →
  bsF p f lo hi ≤ n ∧ (∀ i, i < bsF p f lo hi → p i = true) ∧ (∀ i, bsF p f lo hi ≤ i → i < n → p i = false)
 | 0, lo, hi, h1, h2, h3, h4, h5 => by
  rw [bsF]
  exact ⟨by omega, h4, fun i hi' => h5 i (by omega)⟩
 | f + 1, lo, hi, h1, h2, h3, h4, h5 => by
  rw [bsF]
  split
  ·split
   ·rename_i hm
    refine bsF_spec p n hp f _ _ (by omega) (by omega) h3 (fun i hi' => ?_) h5
    exact hp i ((lo + hi) / 2) (by omega) (by omega) hm
   ·rename_i hm
    refine bsF_spec p n hp f _ _ (by omega) (by omega) (by omega) h4 (fun i hi' hin => ?_)
    cases hpi : p i with
    | false => rfl
    | true => exact absurd (hp ((lo + hi) / 2) i hi' hin hpi) hm
  ·exact ⟨by omega, h4, fun i hi' => h5 i (by omega)⟩
theorem firstAt_cases (p : Nat → Bool) : ∀ n i, (firstAt p n i = -1 ∧ ∀ k, i ≤ k → k < i + n → p k = false) ∨ ∃ j : Nat, firstAt p n i = (j : Int) ∧ i ≤ j ∧ j < i + n ∧ p j = true
 | 0, i => .inl ⟨rfl, fun k h1 h2 => by omega⟩
 | n + 1, i => by
  rw [firstAt]
  split
  ·rename_i h; exact .inr ⟨i, rfl, by omega, by omega, h⟩
  ·rename_i h
   rcases firstAt_cases p n (i + 1) with ⟨h1, h2⟩ | ⟨j, h1, h2, h3, h4⟩
   ·refine .inl ⟨h1, fun k h3 h4 => ?_⟩
    rcases Nat.eq_or_lt_of_le h3 with e | e
    ·subst e; simpa using h
    ·exact h2 k (by omega) (by omega)
   ·exact .inr ⟨j, h1, by omega, by omega, h4⟩
/-- The place of a link, or -1. -/
def posL (ls : List Lk) (a b : Int) : Int := firstAt (isL ls a b) ls.length 0
theorem isL_iff (ls : List Lk) (a b : Int) (i : Nat) : isL ls a b i = true ↔ (ls.getD i default).f = a ∧ (ls.getD i default).t = b := by simp [isL]
theorem posL_cases (ls : List Lk) (a b : Int) : (posL ls a b = -1 ∧ ∀ k, k < ls.length → ¬ ((ls.getD k default).f = a ∧ (ls.getD k default).t = b)) ∨
  ∃ j : Nat, posL ls a b = (j : Int) ∧ j < ls.length ∧ (ls.getD j default).f = a ∧ (ls.getD j default).t = b := by
 rcases firstAt_cases (isL ls a b) ls.length 0 with ⟨h1, h2⟩ | ⟨j, h1, h2, h3, h4⟩
 ·refine .inl ⟨h1, fun k hk h => ?_⟩
  have := h2 k (by omega) (by omega)
  rw [(isL_iff ls a b k).2 h] at this; cases this
 ·exact .inr ⟨j, h1, by omega, (isL_iff ls a b j).1 h4⟩
theorem lessL_iff (ls : List Lk) (a b : Int) (i : Nat) : lessL ls a b i = true ↔ lexLt (ls.getD i default) a b := by simp [lessL, ordI_neg]
/-- Binary search finds what is there. -/
theorem bsL_spec {n : Nat} {ls : List Lk} (hS : SortedP n ls) (a b : Int) :
  (decide (bsL ls a b < ls.length) && decide (ordI (ls.getD (bsL ls a b) default) a b = 0)) = decide (0 ≤ posL ls a b) ∧ (0 ≤ posL ls a b → (bsL ls a b : Int) = posL ls a b) := by
 have hmono : ∀ i j, i ≤ j → j < ls.length → lessL ls a b j = true → lessL ls a b i = true := by
  intro i j hij hj h
  rw [lessL_iff] at *
  rcases Nat.eq_or_lt_of_le hij with e | e
  ·subst e; exact h
  ·have := rising hS i (j - i - 1) (by omega)
   rw [show i + (j - i - 1 + 1) = j by omega] at this
   unfold lexLt at *; omega
 obtain ⟨h1, h2, h3⟩ := bsF_spec (lessL ls a b) ls.length hmono ls.length 0 ls.length (by omega) (by omega) (by omega) (fun i hi => by omega) (fun i hi hi' => by omega)
 have hb : bsF (lessL ls a b) ls.length 0 ls.length = bsL ls a b := rfl
 rw [hb] at h1 h2 h3
 rcases posL_cases ls a b with ⟨p1, p2⟩ | ⟨j, p1, p2, p3, p4⟩
 ·constructor
  ·rw [p1]
   by_cases hlt : bsL ls a b < ls.length
   ·have : ¬ ordI (ls.getD (bsL ls a b) default) a b = 0 := by rw [ordI_zero]; exact p2 _ hlt
    rw [decide_eq_false this, Bool.and_false]; rfl
   ·rw [decide_eq_false hlt, Bool.false_and]; rfl
  ·intro h; omega
 ·have hj : lessL ls a b j = false := by
   cases h : lessL ls a b j with
   | false => rfl
   | true => rw [lessL_iff] at h; unfold lexLt at h; omega
  have e : bsL ls a b = j := by
   rcases Nat.lt_trichotomy (bsL ls a b) j with h | h | h
   ·exfalso
    have h5 := h3 (bsL ls a b) (by omega) (by omega)
    have := rising hS (bsL ls a b) (j - bsL ls a b - 1) (by omega)
    rw [show bsL ls a b + (j - bsL ls a b - 1 + 1) = j by omega, p3, p4, ← lessL_iff] at this
    rw [this] at h5; cases h5
   ·exact h
   ·rw [h2 j h] at hj; cases hj
  rw [e, p1]
  constructor
  ·have : ordI (ls.getD j default) a b = 0 := by rw [ordI_zero]; exact ⟨p3, p4⟩
   rw [decide_eq_true p2, decide_eq_true this, decide_eq_true (by omega)]; rfl
  ·intro _; rfl
/-- A link is put together of two. -/
def JoinP (rk : List Int) (ls : List Lk) (x : Lk) : Prop :=
 (0 ≤ x.m ∧ x.m < rk.length) ∧ rk.getD x.m.toNat 0 < rk.getD x.f.toNat 0 ∧ rk.getD x.m.toNat 0 < rk.getD x.t.toNat 0 ∧ 0 ≤ posL ls x.f x.m ∧ 0 ≤ posL ls x.m x.t ∧
  (ls.getD (posL ls x.f x.m).toNat default).w + (ls.getD (posL ls x.m x.t).toNat default).w = x.w
instance (rk : List Int) (ls : List Lk) (x : Lk) : Decidable (JoinP rk ls x) := inferInstanceAs (Decidable (_ ∧ _))
theorem find_s {n : Nat} {ls : List Lk} (hS : SortedP n ls) (a b : Int) (hl : ls.length ≤ 1000000) : ACalls Tryz.prog G 96 [lksA ls, .int .i64 a, .int .i64 b]
  (.tup [.int .i64 (bsL ls a b), .sb (decide (0 ≤ posL ls a b))]) := by
 rw [← (bsL_spec hS a b).1]; exact find_c ls a b hl
theorem posL_ok {n : Nat} {ls : List Lk} (hS : SortedP n ls) {a b : Int} (h : 0 ≤ posL ls a b) : (bsL ls a b : Int) = posL ls a b ∧ bsL ls a b < ls.length ∧ okL n (ls.getD (bsL ls a b) default) := by
 have h1 := (bsL_spec hS a b).2 h
 rcases posL_cases ls a b with ⟨p1, p2⟩ | ⟨j, p1, p2, p3, p4⟩
 ·omega
 ·have : bsL ls a b = j := by omega
  rw [this]; exact ⟨by omega, p2, (hS j p2).1⟩
end Go.Proofs.YtnkbkfjgbejhfaaGreat
namespace Go.Proofs.YtnkbkfjgbejhfaaGreat
open Go.Proofs.YtnkbkfjgbejhfaaGreat.Am
variable [Inhabited DRT]
variable {G : GInv}
theorem joined_c (rk : List Int) (ls : List Lk) (x : Lk) (hS : SortedP rk.length ls) (hx : okL rk.length x) (hl : ls.length ≤ 1000000) (hr : rk.length ≤ 1000000) :
  ACalls Tryz.prog G 76 [.agg [intsA rk, lksA ls], .agg (lkA x)] (.sb (decide (JoinP rk ls x))) := by
 obtain ⟨x1, x2, x3, x4, x5⟩ := hx
 have q1 := posL_ok hS (a := x.f) (b := x.m)
 have q2 := posL_ok hS (a := x.m) (b := x.t)
 refine ACalls.of_WA ttok Tryz.func76 rfl rfl _ rfl ?_
 conv => whnf
 repeat' (first | refine sq ?_ | refine bk ?_ | ((first | refine rg ttok ?_ | refine dw ttok mixed ?_ | refine cd ?_ | refine sk ?_ | refine xt ?_ | refine rt ?_); conv => whnf) | (refine And.intro (fun h => ?_) (fun h => ?_) <;> (try simp only [brsA] at h) <;> conv => whnf) | (refine Or.inl ?_; (conv => whnf); (first | refine ⟨_, vertex_c _ _ _, ?_⟩ | refine ⟨_, find_s hS _ _ hl, ?_⟩); conv => whnf) | ((first | refine wf ?_ | refine wp' ?_ | refine ai ?_ | refine And.intro rfl ?_ | refine an ?_ | fail); conv => whnf))
 all_goals (try simp only [brsD] at *)
 all_goals try
  refine (decide_eq_false fun hJ => ?_).symm
  obtain ⟨j1, j2, j3, j4, j5, j6⟩ := hJ
  omega
 ·rename_i g1 g2 g3 g4
  obtain ⟨a1, a2, a3⟩ := q1 g3
  obtain ⟨b1, b2, b3⟩ := q2 g4
  obtain ⟨_, _, _, a4, a5⟩ := a3
  obtain ⟨_, _, _, b4, b5⟩ := b3
  rw [i64_in (by omega), Bool.beq_eq_decide_eq]
  apply decide_eq_decide.2
  have e1 : (posL ls x.f x.m).toNat = bsL ls x.f x.m := by omega
  have e2 : (posL ls x.m x.t).toNat = bsL ls x.m x.t := by omega
  constructor
  ·intro h6; exact ⟨by assumption, by omega, by omega, g3, g4, by rw [e1, e2]; exact h6⟩
  ·rintro ⟨_, _, _, _, _, h6⟩; rw [e1, e2] at h6; exact h6
/-- A law, asked of a row's elements one by one. -/
theorem indexFunc_c (rk : List Int) (hs ls : List Lk) (f : Nat) (p : Nat → Bool) (hl : ls.length ≤ 1000000)
  (hp : ∀ i, i < ls.length → ACalls Tryz.prog G f [.agg (lkA (ls.getD i default)), .bref [intsA rk, lksA hs] 0] (.sb (p i))) :
  ACalls Tryz.prog G 95 [lksA ls, .fn f [.bref [intsA rk, lksA hs] 0]] (.int .i64 (firstAt p ls.length 0)) := by
 refine ACalls.of_WA ttok Tryz.func95 rfl rfl _ rfl ?_
 conv => whnf
 repeat' (first | refine sq ?_ | refine bk ?_ | ((first | refine rg ttok ?_ | refine dw ttok mixed ?_ | refine cd ?_ | refine sk ?_ | refine xt ?_ | refine rt ?_); conv => whnf) | (refine And.intro (fun h => ?_) (fun h => ?_) <;> (try simp only [brsA] at h) <;> conv => whnf) | ((first | refine wf ?_ | refine wp' ?_ | refine ai ?_ | refine And.intro rfl ?_ | refine an ?_ | fail); conv => whnf))
 refine WA_loopI (fun i : Nat => i ≤ ls.length ∧ firstAt p ls.length 0 = firstAt p (ls.length - i) i) (fun i => [(8, .int .i64 (i : Int))]) (fun _ => []) (fun i => ls.length - i) 0 ⟨by omega, rfl⟩ ?_ ?_
 ·conv => whnf
  repeat (first | exact fa | ((first | refine fb ?_ | (refine And.intro ?_ ?_; rotate_left)); conv => whnf))
 ·rintro i ⟨hi, he⟩
  conv => whnf
  repeat' (first | refine sq ?_ | refine bk ?_ | ((first | refine rg ttok ?_ | refine dw ttok mixed ?_ | refine cd ?_ | refine sk ?_ | refine xt ?_ | refine rt ?_); conv => whnf) | (refine And.intro (fun h => ?_) (fun h => ?_) <;> (try simp only [brsA] at h) <;> conv => whnf) | (refine Or.inl ?_; (conv => whnf); refine ⟨_, hp i (by omega), ?_⟩; conv => whnf) | ((first | refine wf ?_ | refine wp' ?_ | refine ai ?_ | refine And.intro rfl ?_ | refine an ?_ | fail); conv => whnf))
  ·rw [he, firstAt_step _ (show i < ls.length by omega), if_pos h]
  ·refine ⟨i + 1, ⟨by omega, by rw [he, firstAt_step _ (show i < ls.length by omega), if_neg (by rw [h]; simp)]⟩, (by show ls.length - (i + 1) < ls.length - i; omega), ?_⟩
   conv => whnf
   repeat (first | exact fa | ((first | refine fb ?_ | (refine And.intro ?_ ?_; rotate_left)); conv => whnf))
  ·rw [he, show ls.length - i = 0 by omega]; rfl
theorem containsFunc_c (rk : List Int) (hs ls : List Lk) (f : Nat) (p : Nat → Bool) (hl : ls.length ≤ 1000000)
  (hp : ∀ i, i < ls.length → ACalls Tryz.prog G f [.agg (lkA (ls.getD i default)), .bref [intsA rk, lksA hs] 0] (.sb (p i))) :
  ACalls Tryz.prog G 74 [lksA ls, .fn f [.bref [intsA rk, lksA hs] 0]] (.sb (decide (0 ≤ firstAt p ls.length 0))) := by
 refine ACalls.of_WA ttok Tryz.func74 rfl rfl _ rfl ?_
 conv => whnf
 repeat' (first | refine sq ?_ | refine bk ?_ | ((first | refine rg ttok ?_ | refine dw ttok mixed ?_ | refine cd ?_ | refine sk ?_ | refine xt ?_ | refine rt ?_); conv => whnf) | (refine And.intro (fun h => ?_) (fun h => ?_) <;> (try simp only [brsA] at h) <;> conv => whnf) | (refine Or.inl ?_; (conv => whnf); refine ⟨_, indexFunc_c rk hs ls f p hl hp, ?_⟩; conv => whnf) | ((first | refine wf ?_ | refine wp' ?_ | refine ai ?_ | refine And.intro rfl ?_ | refine an ?_ | fail); conv => whnf))
theorem may1_c (rk : List Int) (ls : List Lk) (x : Lk) (hS : SortedP rk.length ls) (hx : okL rk.length x) (hl : ls.length ≤ 1000000) (hr : rk.length ≤ 1000000) :
  ACalls Tryz.prog G 75 [.agg (lkA x), .bref [intsA rk, lksA ls] 0] (.sb (decide (x.m ≠ -1 ∧ ¬ JoinP rk ls x))) := by
 refine ACalls.of_WA ttok Tryz.func75 rfl rfl _ rfl ?_
 conv => whnf
 repeat' (first | refine sq ?_ | refine bk ?_ | ((first | refine rg ttok ?_ | refine dw ttok mixed ?_ | refine cd ?_ | refine sk ?_ | refine xt ?_ | refine rt ?_); conv => whnf) | (refine And.intro (fun h => ?_) (fun h => ?_) <;> (try simp only [brsA] at h) <;> conv => whnf) | (refine Or.inl ?_; (conv => whnf); refine ⟨_, joined_c rk ls x hS hx hl hr, ?_⟩; conv => whnf) | ((first | refine wf ?_ | refine wp' ?_ | refine ai ?_ | refine And.intro rfl ?_ | refine an ?_ | fail); conv => whnf))
 ·simp [h]
 ·simp [h]
def MayP (rk : List Int) (ls : List Lk) : Prop := rk.length ≤ 4000 ∧ ls.length ≤ 200000 ∧ RanksP rk ∧ SortedP rk.length ls ∧ ∀ i, i < ls.length → (ls.getD i default).m = -1 ∨ JoinP rk ls (ls.getD i default)
instance (rk : List Int) (ls : List Lk) : Decidable (MayP rk ls) := inferInstanceAs (Decidable (_ ∧ _ ∧ _ ∧ _ ∧ ∀ i, i < ls.length → _))
theorem firstAt_nonneg (p : Nat → Bool) (n : Nat) : 0 ≤ firstAt p n 0 ↔ ∃ i, i < n ∧ p i = true := by
 rcases firstAt_cases p n 0 with ⟨h1, h2⟩ | ⟨j, h1, h2, h3, h4⟩
 ·constructor
  ·intro h; omega
  ·rintro ⟨i, hi, hp⟩; rw [h2 i (by omega) (by omega)] at hp; cases hp
 ·exact ⟨fun _ => ⟨j, by omega, h4⟩, fun _ => by omega⟩
theorem may_c (rk : List Int) (ls : List Lk) (hl : ls.length ≤ 1000000) (hr : rk.length ≤ 1000000) : ACalls Tryz.prog G 45 [.agg [intsA rk, lksA ls]] (.sb (decide (MayP rk ls))) := by
 refine ACalls.of_WA ttok Tryz.func45 rfl rfl _ rfl ?_
 conv => whnf
 repeat' (first | refine sq ?_ | refine bk ?_ | ((first | refine rg ttok ?_ | refine dw ttok mixed ?_ | refine cd ?_ | refine sk ?_ | refine xt ?_ | refine rt ?_); conv => whnf) | (refine And.intro (fun h => ?_) (fun h => ?_) <;> (try simp only [brsA] at h) <;> conv => whnf) | (refine Or.inl ?_; (conv => whnf); (first | refine ⟨_, ranks_c _ hr, ?_⟩ | refine ⟨_, sorted_c rk ls hl, ?_⟩); conv => whnf) | ((first | refine wf ?_ | refine wp' ?_ | refine ai ?_ | refine And.intro rfl ?_ | refine an ?_ | fail); conv => whnf))
 ·exact (decide_eq_false fun hM => h hM.2.2.2.1).symm
 ·rename_i g1 g2 g3
  have hp : ∀ i, i < ls.length → ACalls Tryz.prog G 75 [.agg (lkA (ls.getD i default)), .bref [intsA rk, lksA ls] 0] (.sb (decide ((ls.getD i default).m ≠ -1 ∧ ¬ JoinP rk ls (ls.getD i default)))) :=
   fun i hi => may1_c rk ls _ h (h i hi).1 hl hr
  refine Or.inl ⟨_, containsFunc_c rk ls ls 75 _ hl hp, rfl, ?_⟩
  conv => whnf
  repeat' (first | refine sq ?_ | refine bk ?_ | ((first | refine rg ttok ?_ | refine dw ttok mixed ?_ | refine cd ?_ | refine sk ?_ | refine xt ?_ | refine rt ?_); conv => whnf) | (refine And.intro (fun h => ?_) (fun h => ?_) <;> (try simp only [brsA] at h) <;> conv => whnf) | ((first | refine wf ?_ | refine wp' ?_ | refine ai ?_ | refine And.intro rfl ?_ | refine an ?_ | fail); conv => whnf))
  rw [← decide_not]
  apply decide_eq_decide.2
  rw [firstAt_nonneg]
  constructor
  ·intro hn
   refine ⟨by omega, by omega, g3, h, fun i hi => ?_⟩
   by_cases hm : (ls.getD i default).m = -1
   ·exact .inl hm
   ·refine .inr (Decidable.byContradiction fun hj => hn ⟨i, hi, decide_eq_true ⟨hm, hj⟩⟩)
  ·rintro ⟨_, _, _, _, hM⟩ ⟨i, hi, hd⟩
   have hd := of_decide_eq_true hd
   rcases hM i hi with h1 | h1
   ·exact hd.1 h1
   ·exact hd.2 h1
 ·exact (decide_eq_false fun hM => h hM.2.2.1).symm
 ·exact (decide_eq_false fun hM => by have := hM.2.1; omega).symm
 ·exact (decide_eq_false fun hM => by have := hM.1; omega).symm
end Go.Proofs.YtnkbkfjgbejhfaaGreat
namespace Go.Proofs.YtnkbkfjgbejhfaaGreat
open Go.Proofs.YtnkbkfjgbejhfaaGreat.Am
variable [Inhabited DRT]
variable {G : GInv}
theorem rowCat_snoc {α : Type} (e : α → List A) (d : α) (l : List α) (x : α) (r : Nat → List A) (hr : r 0 = e x) (i : Nat) (hi : i < l.length + 1) :
  rowCat l.length (fun i => e (l.getD i d)) r i = e ((l ++ [x]).getD i d) := by
 unfold rowCat
 split
 ·rename_i h
  have h : i < l.length := Nat.le_of_ble_eq_true h
  simp only [List.getD_eq_getElem?_getD, List.getElem?_append_left h]
 ·rename_i h
  have h : ¬ i < l.length := fun h' => by rw [show Nat.blt i l.length = true from Nat.ble_eq_true_of_le h'] at h; cases h
  have : i = l.length := by omega
  subst this
  simp [hr, List.getD_eq_getElem?_getD]
theorem filterMap_take {α β : Type} (g : α → Option β) (d : α) (l : List α) (i : Nat) (hi : i < l.length) :
  (l.take (i + 1)).filterMap g = (l.take i).filterMap g ++ (match g (l.getD i d) with | some y => [y] | none => []) := by
 rw [List.take_add_one, List.filterMap_append]
 congr 1
 rw [List.getD_eq_getElem?_getD, List.getElem?_eq_getElem hi]
 cases h : g l[i] <;> simp [h]
def upF (rk : List Int) (v : Int) (x : Lk) : Option (Int × Int) := if x.f = v ∧ rk.getD v.toNat 0 < rk.getD x.t.toNat 0 then some (x.w, x.t) else none
def downF (rk : List Int) (v : Int) (x : Lk) : Option (Int × Int) := if x.t = v ∧ rk.getD v.toNat 0 < rk.getD x.f.toNat 0 then some (x.w, x.f) else none
theorem filterMap_len {α β : Type} (g : α → Option β) (l : List α) : (l.filterMap g).length ≤ l.length := List.length_filterMap_le g l
end Go.Proofs.YtnkbkfjgbejhfaaGreat
namespace Go.HeapL
/-! ### One side of a search: plain laws -/
structure Sd where
 L : List It
 c : Int → Option Int
 f : Int → Int
 t : Int
def NC : Int := 4611686018427387904
def kp (S : Sd) (v cost : Int) : Bool := decide (NC ≤ cost) || (match S.c v with
 | some k => decide (k ≤ cost)
 | none => false)
def upd (S : Sd) (v u cost : Int) : Sd := ⟨hset S.L (cost, v), fun x => if x = v then some cost else S.c x, fun x => if x = v then u else S.f x, S.t⟩
def rch (S : Sd) (v u cost : Int) : Sd := match kp S v cost with
 | true => S
 | false => upd S v u cost
def Sd0 : Sd := ⟨[], fun _ => none, fun _ => 0, 0⟩
def begL (l : List It) (S : Sd) : Sd := l.foldl (fun S x => rch S x.2 (-1) x.1) S
def rlx (v key : Int) (l : List It) (S : Sd) : Sd := l.foldl (fun S a => rch S a.2 v (key + a.1)) S
inductive Wk (st : List It) (lk : Int → List It) : Int → Int → Prop
 | start {k v : Int} (h : (k, v) ∈ st) : Wk st lk v k
 | step {u d w v : Int} (h : Wk st lk u d) (h2 : (w, v) ∈ lk u) : Wk st lk v (d + w)
structure Dat (n : Int) (st : List It) (lk : Int → List It) : Prop where
 stok : ∀ k v, (k, v) ∈ st → 0 ≤ v ∧ v < n ∧ 0 ≤ k ∧ k < NC
 lkok : ∀ u w v, (w, v) ∈ lk u → 0 ≤ v ∧ v < n ∧ 0 ≤ w
structure Inv (n : Int) (st : List It) (lk : Int → List It) (D : List Int) (S : Sd) : Prop where
 hp : Hp S.L
 nd : Nd S.L
 dn : D.Nodup
 inL : ∀ k v, (k, v) ∈ S.L → S.c v = some k ∧ v ∉ D
 cv : ∀ v k, S.c v = some k → v ∈ D ∨ (k, v) ∈ S.L
 dc : ∀ v ∈ D, ∃ k, S.c v = some k
 low : ∀ v ∈ D, ∀ k, S.c v = some k → ∀ k' u, (k', u) ∈ S.L → k ≤ k'
 rng : ∀ v k, S.c v = some k → 0 ≤ v ∧ v < n ∧ 0 ≤ k ∧ k < NC
 chain : ∀ v k, S.c v = some k → (S.f v = -1 ∧ (k, v) ∈ st) ∨ (S.f v ∈ D ∧ ∃ ku w, S.c (S.f v) = some ku ∧ (w, v) ∈ lk (S.f v) ∧ k = ku + w)
 snd : ∀ v k, S.c v = some k → Wk st lk v k
 tk : S.t = (D.length : Int)
def Le (S S' : Sd) : Prop := ∀ x k, S.c x = some k → ∃ k', S'.c x = some k' ∧ k' ≤ k
def Beg (st : List It) (S : Sd) : Prop := ∀ k v, (k, v) ∈ st → ∃ k', S.c v = some k' ∧ k' ≤ k
def Cl (lk : Int → List It) (D : List Int) (S : Sd) : Prop := ∀ u ∈ D, ∀ ku, S.c u = some ku → ∀ w v, (w, v) ∈ lk u → ku + w < NC → ∃ k', S.c v = some k' ∧ k' ≤ ku + w
theorem Le.refl (S : Sd) : Le S S := fun x k h => ⟨k, h, Int.le_refl _⟩
theorem Le.trans {S S' S'' : Sd} (h : Le S S') (h' : Le S' S'') : Le S S'' := fun x k e => by
 obtain ⟨k1, e1, l1⟩ := h x k e
 obtain ⟨k2, e2, l2⟩ := h' x k1 e1
 exact ⟨k2, e2, Int.le_trans l2 l1⟩
theorem Beg.mono {st : List It} {S S' : Sd} (h : Beg st S) (l : Le S S') : Beg st S' := fun k v hm => by
 obtain ⟨k1, e1, l1⟩ := h k v hm
 obtain ⟨k2, e2, l2⟩ := l v k1 e1
 exact ⟨k2, e2, Int.le_trans l2 l1⟩
theorem wk_ok {n : Int} {st : List It} {lk : Int → List It} (hd : Dat n st lk) {v d : Int} (h : Wk st lk v d) : 0 ≤ v ∧ v < n ∧ 0 ≤ d := by
 induction h with
 | start h => have := hd.stok _ _ h; omega
 | step _ h2 ih => have := hd.lkok _ _ _ h2; omega
theorem inv0 (n : Int) (st : List It) (lk : Int → List It) : Inv n st lk [] Sd0 where
 hp := fun j _ h => by simp [Sd0] at h
 nd := by simp [Nd, Sd0]
 dn := List.nodup_nil
 inL := fun k v h => by simp [Sd0] at h
 cv := fun v k h => by simp [Sd0] at h
 dc := fun v h => by simp at h
 low := fun v h => by simp at h
 rng := fun v k h => by simp [Sd0] at h
 chain := fun v k h => by simp [Sd0] at h
 snd := fun v k h => by simp [Sd0] at h
 tk := rfl
/-- What a reach does. -/
theorem rch_inv {n : Int} {st : List It} {lk : Int → List It} {D : List Int} {S : Sd} (h : Inv n st lk D S) {v u cost : Int}
  (hv : 0 ≤ v ∧ v < n) (hc : 0 ≤ cost) (ht : ∀ d ∈ D, ∀ k, S.c d = some k → k ≤ cost)
  (hu : (u = -1 ∧ (cost, v) ∈ st) ∨ (u ∈ D ∧ ∃ ku w, S.c u = some ku ∧ (w, v) ∈ lk u ∧ cost = ku + w)) :
  Inv n st lk D (rch S v u cost) ∧ Le S (rch S v u cost) ∧ (∀ d ∈ D, (rch S v u cost).c d = S.c d) ∧ (cost < NC → ∃ k', (rch S v u cost).c v = some k' ∧ k' ≤ cost) ∧
   (rch S v u cost).t = S.t := by
 unfold rch
 cases hk : kp S v cost with
 | true =>
  refine ⟨h, Le.refl _, fun _ _ => rfl, fun hl => ?_, rfl⟩
  unfold kp at hk
  rw [Bool.or_eq_true, decide_eq_true_eq] at hk
  rcases hk with hk | hk
  ·omega
  ·cases e : S.c v with
   | none => rw [e] at hk; cases hk
   | some k => rw [e] at hk; exact ⟨k, rfl, of_decide_eq_true hk⟩
 | false =>
  simp only
  unfold kp at hk
  rw [Bool.or_eq_false_iff, decide_eq_false_iff_not] at hk
  have hless : ∀ k, S.c v = some k → cost < k := fun k e => by
   have := hk.2; rw [e] at this; have := of_decide_eq_false this; omega
  have hvD : v ∉ D := fun hm => by
   obtain ⟨k, e⟩ := h.dc v hm
   have := ht v hm k e; have := hless k e; omega
  obtain ⟨s1, s2, s3⟩ := hset_ok h.hp h.nd (cost, v)
  have hcx : ∀ x, (upd S v u cost).c x = if x = v then some cost else S.c x := fun _ => rfl
  have hcd : ∀ d ∈ D, (upd S v u cost).c d = S.c d := fun d hd => by rw [hcx, if_neg (fun e : d = v => hvD (by rw [← e]; exact hd))]
  have hle : Le S (upd S v u cost) := fun x k e => by
   rw [hcx]
   by_cases ex : x = v
   ·subst ex; rw [if_pos rfl]; exact ⟨_, rfl, Int.le_of_lt (hless k e)⟩
   ·rw [if_neg ex]; exact ⟨k, e, Int.le_refl _⟩
  refine ⟨⟨s1, s2, h.dn, ?_, ?_, ?_, ?_, ?_, ?_, ?_, h.tk⟩, hle, hcd, fun _ => ⟨cost, by rw [hcx, if_pos rfl], Int.le_refl _⟩, rfl⟩
  ·intro k x hm
   rw [hcx]
   rcases (s3 k x).1 hm with ⟨e1, e2⟩ | ⟨e1, e2⟩
   ·simp only at e1 e2; subst e1 e2; rw [if_pos rfl]; exact ⟨rfl, hvD⟩
   ·rw [if_neg e1]; exact h.inL k x e2
  ·intro x k e
   rw [hcx] at e
   by_cases ex : x = v
   ·rw [if_pos ex] at e; cases e; exact .inr ((s3 _ _).2 (.inl ⟨ex, rfl⟩))
   ·rw [if_neg ex] at e
    rcases h.cv x k e with h1 | h1
    ·exact .inl h1
    ·exact .inr ((s3 _ _).2 (.inr ⟨ex, h1⟩))
  ·intro x hx
   obtain ⟨k, e⟩ := h.dc x hx
   exact ⟨k, by rw [hcd x hx]; exact e⟩
  ·intro x hx k e k' y hm
   rw [hcd x hx] at e
   rcases (s3 k' y).1 hm with ⟨e1, e2⟩ | ⟨e1, e2⟩
   ·simp only at e2; subst e2; exact ht x hx k e
   ·exact h.low x hx k e k' y e2
  ·intro x k e
   rw [hcx] at e
   by_cases ex : x = v
   ·rw [if_pos ex] at e; cases e; subst ex; exact ⟨hv.1, hv.2, hc, by omega⟩
   ·rw [if_neg ex] at e; exact h.rng x k e
  ·intro x k e
   rw [hcx] at e
   have hf : (upd S v u cost).f x = if x = v then u else S.f x := rfl
   by_cases ex : x = v
   ·rw [if_pos ex] at e; cases e; subst ex
    rw [hf, if_pos rfl]
    rcases hu with ⟨e1, e2⟩ | ⟨e1, ku, w, e2, e3, e4⟩
    ·exact .inl ⟨e1, e2⟩
    ·exact .inr ⟨e1, ku, w, by rw [hcd u e1]; exact e2, e3, e4⟩
   ·rw [if_neg ex] at e
    rw [hf, if_neg ex]
    rcases h.chain x k e with ⟨e1, e2⟩ | ⟨e1, ku, w, e2, e3, e4⟩
    ·exact .inl ⟨e1, e2⟩
    ·exact .inr ⟨e1, ku, w, by rw [hcd _ e1]; exact e2, e3, e4⟩
  ·intro x k e
   rw [hcx] at e
   by_cases ex : x = v
   ·rw [if_pos ex] at e; cases e; subst ex
    rcases hu with ⟨e1, e2⟩ | ⟨e1, ku, w, e2, e3, e4⟩
    ·exact .start e2
    ·rw [e4]; exact .step (h.snd u ku e2) e3
   ·rw [if_neg ex] at e; exact h.snd x k e
theorem beg_inv {n : Int} {st : List It} {lk : Int → List It} (hd : Dat n st lk) : ∀ (l : List It) (S : Sd), (∀ x ∈ l, x ∈ st) → Inv n st lk [] S →
  Inv n st lk [] (begL l S) ∧ Le S (begL l S) ∧ Beg l (begL l S) ∧ (begL l S).t = S.t
 | [], S, _, h => ⟨h, Le.refl _, fun k v hm => by simp at hm, rfl⟩
 | x :: l, S, hl, h => by
  have hx := hl x (by simp)
  have ho := hd.stok x.1 x.2 hx
  obtain ⟨i1, i2, i3, i4, i5⟩ := rch_inv h (v := x.2) (u := -1) (cost := x.1) ⟨ho.1, ho.2.1⟩ ho.2.2.1 (fun d hd => by simp at hd) (.inl ⟨rfl, hx⟩)
  obtain ⟨j1, j2, j3, j4⟩ := beg_inv hd l _ (fun y hy => hl y (by simp [hy])) i1
  refine ⟨j1, i2.trans j2, fun k v hm => ?_, by rw [show begL (x :: l) S = begL l (rch S x.2 (-1) x.1) from rfl, j4, i5]⟩
  rcases List.mem_cons.1 hm with e | hm
  ·subst e
   obtain ⟨k1, e1, l1⟩ := i4 ho.2.2.2
   obtain ⟨k2, e2, l2⟩ := j2 _ k1 e1
   exact ⟨k2, e2, Int.le_trans l2 l1⟩
  ·exact j3 k v hm
theorem rlx_inv {n : Int} {st : List It} {lk : Int → List It} (hd : Dat n st lk) {D : List Int} {v key : Int} (hv : v ∈ D) (h0 : 0 ≤ key) : ∀ (l : List It) (S : Sd), (∀ x ∈ l, x ∈ lk v) → Inv n st lk D S →
  S.c v = some key → (∀ d ∈ D, ∀ k, S.c d = some k → k ≤ key) →
  Inv n st lk D (rlx v key l S) ∧ Le S (rlx v key l S) ∧ (∀ d ∈ D, (rlx v key l S).c d = S.c d) ∧ (∀ w u, (w, u) ∈ l → key + w < NC → ∃ k', (rlx v key l S).c u = some k' ∧ k' ≤ key + w) ∧ (rlx v key l S).t = S.t
 | [], S, _, h, _, _ => ⟨h, Le.refl _, fun _ _ => rfl, fun w u hm => by simp at hm, rfl⟩
 | x :: l, S, hl, h, hk, ht => by
  have hx := hl x (by simp)
  have ho := hd.lkok v x.1 x.2 hx
  obtain ⟨i1, i2, i3, i4, i5⟩ := rch_inv h (v := x.2) (u := v) (cost := key + x.1) ⟨ho.1, ho.2.1⟩ (by omega) (fun d hd' k e => by have := ht d hd' k e; omega)
   (.inr ⟨hv, key, x.1, hk, hx, rfl⟩)
  obtain ⟨j1, j2, j3, j4, j5⟩ := rlx_inv hd hv h0 l _ (fun y hy => hl y (by simp [hy])) i1 (by rw [i3 v hv]; exact hk) (fun d hd' k e => by rw [i3 d hd'] at e; exact ht d hd' k e)
  refine ⟨j1, i2.trans j2, fun d hd' => (j3 d hd').trans (i3 d hd'), fun w u hm hlt => ?_, by rw [show rlx v key (x :: l) S = rlx v key l (rch S x.2 v (key + x.1)) from rfl, j5, i5]⟩
  rcases List.mem_cons.1 hm with e | hm
  ·subst e
   obtain ⟨k1, e1, l1⟩ := i4 hlt
   obtain ⟨k2, e2, l2⟩ := j2 _ k1 e1
   exact ⟨k2, e2, Int.le_trans l2 l1⟩
  ·exact j4 w u hm hlt
def popd (S : Sd) : Sd := ⟨hpop S.L, S.c, S.f, S.t + 1⟩
/-- The least item is taken. -/
theorem pop_inv {n : Int} {st : List It} {lk : Int → List It} {D : List Int} {S : Sd} (h : Inv n st lk D S) (hl : 0 < S.L.length) :
  Inv n st lk ((gt S.L 0).2 :: D) (popd S) ∧ S.c (gt S.L 0).2 = some (gt S.L 0).1 ∧ (gt S.L 0).2 ∉ D ∧ ∀ d ∈ (gt S.L 0).2 :: D, ∀ k, S.c d = some k → k ≤ (gt S.L 0).1 := by
 obtain ⟨p1, p2, p3⟩ := hpop_ok hl h.hp h.nd
 have hm : ((gt S.L 0).1, (gt S.L 0).2) ∈ S.L := mem_gt hl
 obtain ⟨hc, hn⟩ := h.inL _ _ hm
 have htop := hp_top h.hp
 have hmin : ∀ k u, (k, u) ∈ S.L → (gt S.L 0).1 ≤ k := fun k u hk => by
  obtain ⟨j, hj, e⟩ := mem_at hk
  have := htop j hj
  rw [e, nlt_iff] at this; simp only at this; omega
 have hmax : ∀ d ∈ (gt S.L 0).2 :: D, ∀ k, S.c d = some k → k ≤ (gt S.L 0).1 := by
  intro d hd k e
  rcases List.mem_cons.1 hd with rfl | hd
  ·rw [hc] at e; cases e; exact Int.le_refl _
  ·exact h.low d hd k e _ _ hm
 refine ⟨⟨p1, p2, List.nodup_cons.2 ⟨hn, h.dn⟩, ?_, ?_, ?_, ?_, h.rng, ?_, h.snd, ?_⟩, hc, hn, hmax⟩
 ·intro k v hk
  obtain ⟨q1, q2⟩ := (p3 k v).1 hk
  obtain ⟨r1, r2⟩ := h.inL k v q2
  exact ⟨r1, fun hm => (List.mem_cons.1 hm).elim q1 r2⟩
 ·intro v k e
  rcases h.cv v k e with h1 | h1
  ·exact .inl (List.mem_cons_of_mem _ h1)
  ·by_cases ev : v = (gt S.L 0).2
   ·exact .inl (by rw [ev]; simp)
   ·exact .inr ((p3 k v).2 ⟨ev, h1⟩)
 ·intro v hv
  rcases List.mem_cons.1 hv with rfl | hv
  ·exact ⟨_, hc⟩
  ·exact h.dc v hv
 ·intro v hv k e k' u hk
  have := hmax v hv k e
  have := hmin k' u ((p3 k' u).1 hk).2
  omega
 ·intro v k e
  rcases h.chain v k e with h1 | ⟨h1, h2⟩
  ·exact .inl h1
  ·exact .inr ⟨List.mem_cons_of_mem _ h1, h2⟩
 ·show S.t + 1 = _
  rw [h.tk]; simp
/-- All that costs less than what is near was settled, at no greater cost. -/
theorem cover {n : Int} {st : List It} {lk : Int → List It} {D : List Int} {S : Sd} (hd : Dat n st lk) (h : Inv n st lk D S) (hb : Beg st S) (hc : Cl lk D S) {B : Int} (hB : B ≤ NC)
  (hL : ∀ k v, (k, v) ∈ S.L → B ≤ k) : ∀ {v d : Int}, Wk st lk v d → d < B → v ∈ D ∧ ∃ k, S.c v = some k ∧ k ≤ d := by
 intro v d hw
 induction hw with
 | start hm =>
  intro hlt
  obtain ⟨k', e, l⟩ := hb _ _ hm
  rcases h.cv _ _ e with h1 | h1
  ·exact ⟨h1, k', e, l⟩
  ·have := hL _ _ h1; omega
 | step hu hm ih =>
  intro hlt
  have hw := hd.lkok _ _ _ hm
  obtain ⟨h1, k, e, l⟩ := ih (by omega)
  obtain ⟨k', e', l'⟩ := hc _ h1 k e _ _ hm (by omega)
  rcases h.cv _ _ e' with h2 | h2
  ·exact ⟨h2, k', e', by omega⟩
  ·have := hL _ _ h2; omega
end Go.HeapL
namespace Go.HeapL
/-! ### Both sides of a search: plain laws -/
structure Bst where
 cost : Int
 pt : Int
def mtb (b : Bst) (c : Option Int) (x : It) : Bst := match c with
 | some k => if k + x.1 < b.cost then ⟨k + x.1, x.2⟩ else b
 | none => b
def stl (S : Sd) (ot : List It) (x : It) : Bool := ot.any fun a => match S.c a.2 with
 | some k => decide (k + a.1 < x.1)
 | none => false
def okT (S : Sd) (b : Bst) : Bool := decide (0 < S.L.length) && decide ((gt S.L 0).1 < b.cost)
def tS (q : Bool) (lk ot : Int → List It) (S : Sd) : Sd := match q && stl S (ot (gt S.L 0).2) (gt S.L 0) with
 | true => popd S
 | false => rlx (gt S.L 0).2 (gt S.L 0).1 (lk (gt S.L 0).2) (popd S)
structure St where
 a : Sd
 z : Sd
 b : Bst
def hlf (q : Bool) (lk ot : Int → List It) (s : St) : St := match okT s.a s.b with
 | true => ⟨tS q lk ot s.a, s.z, mtb s.b (s.z.c (gt s.a.L 0).2) (gt s.a.L 0)⟩
 | false => s
def St.sw (s : St) : St := ⟨s.z, s.a, s.b⟩
def rnd (q : Bool) (up dn : Int → List It) (s : St) : St := (hlf q dn up (hlf q up dn s).sw).sw
def fin (q : Bool) (up dn : Int → List It) (s : St) : Bool := !okT s.a s.b && !okT (hlf q up dn s).z (hlf q up dn s).b
def itr (q : Bool) (up dn : Int → List It) (s : St) : Nat → St
 | 0 => s
 | i + 1 => rnd q up dn (itr q up dn s i)
/-- What was taken, and not stalled, is closed under links. -/
def Clq (q : Bool) (st : List It) (lk ot : Int → List It) (D : List Int) (S : Sd) : Prop := ∀ u ∈ D, ∀ ku, S.c u = some ku → (q = true → ∀ f c w, Wk st lk f c → (w, f) ∈ ot u → ku ≤ c + w) → ∀ w v, (w, v) ∈ lk u → ku + w < NC → ∃ k', S.c v = some k' ∧ k' ≤ ku + w
structure J (n : Int) (sa sz : List It) (up dn : Int → List It) (q : Bool) (Da Dz : List Int) (s : St) : Prop where
 ia : Inv n sa up Da s.a
 iz : Inv n sz dn Dz s.z
 ba : Beg sa s.a
 bz : Beg sz s.z
 ca : Clq q sa up dn Da s.a
 cz : Clq q sz dn up Dz s.z
 mt : ∀ v ∈ Da, v ∈ Dz → ∀ k k', s.a.c v = some k → s.z.c v = some k' → s.b.cost ≤ k + k'
 bb : (s.b.pt = -1 ∧ s.b.cost = NC) ∨ (0 ≤ s.b.pt ∧ s.b.cost < NC ∧ ∃ ka kz ka' kz', Wk sa up s.b.pt ka ∧ Wk sz dn s.b.pt kz ∧ s.b.cost = ka + kz ∧
  s.a.c s.b.pt = some ka' ∧ s.z.c s.b.pt = some kz' ∧ ka' ≤ ka ∧ kz' ≤ kz)
section
variable {n : Int} {sa sz : List It} {up dn : Int → List It} {q : Bool} {Da Dz : List Int} {s : St}
theorem J.sw (h : J n sa sz up dn q Da Dz s) : J n sz sa dn up q Dz Da s.sw := ⟨h.iz, h.ia, h.bz, h.ba, h.cz, h.ca, fun v h1 h2 k k' e e' => by
  have := h.mt v h2 h1 k' k e' e
  rw [Int.add_comm] at this; exact this, by
  rcases h.bb with ⟨h1, h2⟩ | ⟨h0, h1, ka, kz, ka', kz', w1, w2, e1, e2, e3, l1, l2⟩
  ·exact .inl ⟨h1, h2⟩
  ·exact .inr ⟨h0, h1, kz, ka, kz', ka', w2, w1, e1.trans (Int.add_comm _ _), e3, e2, l2, l1⟩⟩
theorem nd_le : ∀ (n : Nat) (D : List Nat), D.Nodup → (∀ x ∈ D, x < n) → D.length ≤ n
 | 0, D, _, h => by
  cases D with
  | nil => simp
  | cons x D => exact absurd (h x (by simp)) (by omega)
 | n + 1, D, hn, h => by
  have := nd_le n (D.erase n) (hn.erase n) (fun x hx => by
   have h1 := h x (List.mem_of_mem_erase hx)
   have h2 : x ≠ n := fun e => by subst e; exact (List.Nodup.not_mem_erase hn) hx
   omega)
  rw [List.length_erase] at this
  split at this <;> omega
theorem nd_leI (n : Int) (D : List Int) (hn : D.Nodup) (h : ∀ x ∈ D, 0 ≤ x ∧ x < n) : D.length ≤ n.toNat := by
 have := nd_le n.toNat (D.map Int.toNat) (by
  rw [List.nodup_iff_pairwise_ne, List.pairwise_map]
  rw [List.nodup_iff_pairwise_ne] at hn
  refine hn.imp_of_mem ?_
  intro a b ha hb hne
  have := h a ha; have := h b hb; omega) (fun x hx => by
   obtain ⟨y, hy, rfl⟩ := List.mem_map.1 hx
   have := h y hy; omega)
 simpa using this
theorem Inv.len {st : List It} {lk : Int → List It} {D : List Int} {S : Sd} (h : Inv n st lk D S) : D.length ≤ n.toNat :=
 nd_leI n D h.dn (fun x hx => by obtain ⟨k, e⟩ := h.dc x hx; have := h.rng x k e; omega)
theorem Inv.lenL {st : List It} {lk : Int → List It} {D : List Int} {S : Sd} (h : Inv n st lk D S) : S.L.length ≤ n.toNat := by
 have := nd_leI n (S.L.map (fun x : It => x.2)) h.nd (fun x hx => by
  obtain ⟨⟨k, v⟩, hm, rfl⟩ := List.mem_map.1 hx
  have := h.rng v k (h.inL k v hm).1; simp only; omega)
 simpa using this
theorem okT_iff {S : Sd} {b : Bst} : okT S b = true ↔ 0 < S.L.length ∧ (gt S.L 0).1 < b.cost := by unfold okT; rw [Bool.and_eq_true, decide_eq_true_eq, decide_eq_true_eq]
/-- One half of a round. -/
theorem hlf_J (hd : Dat n sa up) (h : J n sa sz up dn q Da Dz s) (ho : okT s.a s.b = true) : J n sa sz up dn q ((gt s.a.L 0).2 :: Da) Dz (hlf q up dn s) ∧ (hlf q up dn s).a.t = s.a.t + 1 ∧ (hlf q up dn s).z = s.z := by
 obtain ⟨hl, hlt⟩ := okT_iff.1 ho
 obtain ⟨p1, p2, p3, p4⟩ := pop_inv h.ia hl
 have hx := h.ia.rng _ _ p2
 have key : Inv n sa up ((gt s.a.L 0).2 :: Da) (tS q up dn s.a) ∧ Le s.a (tS q up dn s.a) ∧ (∀ d ∈ (gt s.a.L 0).2 :: Da, (tS q up dn s.a).c d = s.a.c d) ∧
   Clq q sa up dn ((gt s.a.L 0).2 :: Da) (tS q up dn s.a) ∧ (tS q up dn s.a).t = s.a.t + 1 := by
  unfold tS
  cases hq : q && stl s.a (dn (gt s.a.L 0).2) (gt s.a.L 0) with
  | true =>
   refine ⟨p1, fun x k e => ⟨k, e, Int.le_refl _⟩, fun _ _ => rfl, ?_, rfl⟩
   intro u hu ku eu hun w v hm hl'
   rcases List.mem_cons.1 hu with rfl | hu
   ·rw [show (popd s.a).c = s.a.c from rfl, p2] at eu
    cases eu
    rw [Bool.and_eq_true] at hq
    unfold stl at hq
    obtain ⟨a, ha, hs⟩ := List.any_eq_true.1 hq.2
    cases hc : s.a.c a.2 with
    | none => rw [hc] at hs; cases hs
    | some k =>
     rw [hc] at hs
     have h1 := of_decide_eq_true hs
     have h2 := hun hq.1 a.2 k a.1 (h.ia.snd _ _ hc) ha
     omega
   ·exact h.ca u hu ku eu hun w v hm hl'
  | false =>
   obtain ⟨r1, r2, r3, r4, r5⟩ := rlx_inv hd (v := (gt s.a.L 0).2) (key := (gt s.a.L 0).1) (D := (gt s.a.L 0).2 :: Da) (by simp) hx.2.2.1 (up (gt s.a.L 0).2) (popd s.a) (fun _ h => h) p1 p2 p4
   refine ⟨r1, r2, r3, ?_, r5⟩
   intro u hu ku eu hun w v hm hl'
   rcases List.mem_cons.1 hu with rfl | hu
   ·have e1 := r3 (gt s.a.L 0).2 (by simp)
    rw [e1] at eu
    rw [show (popd s.a).c = s.a.c from rfl, p2] at eu
    cases eu
    exact r4 w v hm hl'
   ·have e1 := r3 u (List.mem_cons_of_mem _ hu)
    rw [e1] at eu
    obtain ⟨k1, f1, l1⟩ := h.ca u hu ku eu hun w v hm hl'
    obtain ⟨k2, f2, l2⟩ := r2 v k1 f1
    exact ⟨k2, f2, Int.le_trans l2 l1⟩
 unfold hlf
 rw [ho]
 simp only
 obtain ⟨k1, k2, k3, k4, k5⟩ := key
 generalize tS q up dn s.a = T at *
 generalize hgx : gt s.a.L 0 = x at *
 have hb : (mtb s.b (s.z.c x.2) x).cost ≤ s.b.cost ∧ ∀ k, s.z.c x.2 = some k → (mtb s.b (s.z.c x.2) x).cost ≤ x.1 + k := by
  unfold mtb
  cases e : s.z.c x.2 with
  | none => exact ⟨Int.le_refl _, fun k h => by cases h⟩
  | some k =>
   simp only
   split
   ·exact ⟨by simp only; omega, fun k' h => by cases h; simp only; omega⟩
   ·exact ⟨Int.le_refl _, fun k' h => by cases h; omega⟩
 refine ⟨⟨k1, h.iz, h.ba.mono k2, h.bz, k4, h.cz, ?_, ?_⟩, k5, trivial⟩
 ·intro v hv hz k k' e e'
  rw [k3 v hv] at e
  rcases List.mem_cons.1 hv with rfl | hv
  ·rw [p2] at e; cases e
   exact hb.2 k' e'
  ·have := h.mt v hv hz k k' e e'
   exact Int.le_trans hb.1 this
 ·have old : (s.b.pt = -1 ∧ s.b.cost = NC) ∨ (0 ≤ s.b.pt ∧ s.b.cost < NC ∧ ∃ ka kz ka' kz', Wk sa up s.b.pt ka ∧ Wk sz dn s.b.pt kz ∧ s.b.cost = ka + kz ∧
    T.c s.b.pt = some ka' ∧ s.z.c s.b.pt = some kz' ∧ ka' ≤ ka ∧ kz' ≤ kz) := by
   rcases h.bb with h1 | ⟨h0, h1, ka, kz, ka', kz', w1, w2, e1, e2, e3, l1, l2⟩
   ·exact .inl h1
   ·obtain ⟨k2', f2, l2'⟩ := k2 _ _ e2
    exact .inr ⟨h0, h1, ka, kz, k2', kz', w1, w2, e1, f2, e3, Int.le_trans l2' l1, l2⟩
  have hbc : s.b.cost ≤ NC := by rcases h.bb with ⟨_, e⟩ | ⟨_, e, _⟩ <;> omega
  show ((mtb s.b (s.z.c x.2) x).pt = -1 ∧ (mtb s.b (s.z.c x.2) x).cost = NC) ∨ _
  unfold mtb
  cases e : s.z.c x.2 with
  | none => exact old
  | some k =>
   simp only
   split
   ·rename_i hlt2
    right
    refine ⟨hx.1, by simp only; omega, x.1, k, x.1, k, h.ia.snd _ _ p2, h.iz.snd _ _ e, Int.add_comm _ _, ?_, e, Int.le_refl _, Int.le_refl _⟩
    simp only; rw [k3 _ (by simp)]; exact p2
   ·exact old
theorem hlf_id (ho : okT s.a s.b = false) : hlf q up dn s = s := by unfold hlf; rw [ho]
/-- A round takes one at least, unless it is the last one. -/
theorem rnd_J (hd : Dat n sa up) (hd' : Dat n sz dn) (h : J n sa sz up dn q Da Dz s) : ∃ Da' Dz', J n sa sz up dn q Da' Dz' (rnd q up dn s) ∧ Da.length ≤ Da'.length ∧ Dz.length ≤ Dz'.length ∧
  (fin q up dn s = false → Da.length + Dz.length < Da'.length + Dz'.length) := by
 have h1 : ∃ Da', J n sa sz up dn q Da' Dz (hlf q up dn s) ∧ Da.length ≤ Da'.length ∧ (okT s.a s.b = true → Da.length < Da'.length) := by
  cases ho : okT s.a s.b with
  | true => exact ⟨_, (hlf_J hd h ho).1, by simp, fun _ => by simp⟩
  | false => rw [hlf_id ho]; exact ⟨Da, h, Nat.le_refl _, fun e => by cases e⟩
 obtain ⟨Da', j1, l1, l2⟩ := h1
 have h2 : ∃ Dz', J n sz sa dn up q Dz' Da' (hlf q dn up (hlf q up dn s).sw) ∧ Dz.length ≤ Dz'.length ∧ (okT (hlf q up dn s).z (hlf q up dn s).b = true → Dz.length < Dz'.length) := by
  cases ho : okT (hlf q up dn s).z (hlf q up dn s).b with
  | true => exact ⟨_, (hlf_J hd' j1.sw ho).1, by simp, fun _ => by simp⟩
  | false =>
   rw [show hlf q dn up (hlf q up dn s).sw = (hlf q up dn s).sw from hlf_id ho]; exact ⟨Dz, j1.sw, Nat.le_refl _, fun e => by cases e⟩
 obtain ⟨Dz', j2, l3, l4⟩ := h2
 refine ⟨Da', Dz', j2.sw, l1, l3, fun hf => ?_⟩
 unfold fin at hf
 rw [Bool.and_eq_false_iff] at hf
 rcases hf with hf | hf
 ·have := l2 (by simpa using hf); omega
 ·have := l4 (by simpa using hf); omega
theorem itr_J (hd : Dat n sa up) (hd' : Dat n sz dn) (h : J n sa sz up dn q [] [] s) : ∀ i, ∃ Da Dz, J n sa sz up dn q Da Dz (itr q up dn s i) ∧ ((∀ j, j < i → fin q up dn (itr q up dn s j) = false) → i ≤ Da.length + Dz.length)
 | 0 => ⟨[], [], h, fun _ => Nat.zero_le _⟩
 | i + 1 => by
  obtain ⟨Da, Dz, j1, l1⟩ := itr_J hd hd' h i
  obtain ⟨Da', Dz', j2, l2, l3, l4⟩ := rnd_J hd hd' j1
  refine ⟨Da', Dz', j2, fun hf => ?_⟩
  have := l1 (fun j hj => hf j (by omega))
  have := l4 (hf i (by omega))
  omega
/-- The search ends. -/
theorem itr_end (hd : Dat n sa up) (hd' : Dat n sz dn) (h : J n sa sz up dn q [] [] s) : ∃ N, (∀ j, j < N → fin q up dn (itr q up dn s j) = false) ∧ fin q up dn (itr q up dn s N) = true := by
 refine Classical.byContradiction fun hn => ?_
 have all : ∀ j, fin q up dn (itr q up dn s j) = false := by
  intro j
  induction j using Nat.strongRecOn with
  | _ j ih =>
   refine Classical.byContradiction fun h2 => hn ⟨j, ih, ?_⟩
   simpa using h2
 obtain ⟨Da, Dz, j1, l1⟩ := itr_J hd hd' h (2 * n.toNat + 1)
 have := l1 (fun j _ => all j)
 have := j1.ia.len; have := j1.iz.len
 omega
theorem fin_iff : fin q up dn s = true ↔ okT s.a s.b = false ∧ okT s.z s.b = false := by
 unfold fin
 rw [Bool.and_eq_true]
 constructor
 ·rintro ⟨h1, h2⟩
  have h1 : okT s.a s.b = false := by simpa using h1
  rw [hlf_id h1] at h2
  exact ⟨h1, by simpa using h2⟩
 ·rintro ⟨h1, h2⟩
  rw [hlf_id h1, h1, h2]; exact ⟨rfl, rfl⟩
theorem fin_keys {S : Sd} {b : Bst} (h : okT S b = false) (hp : Hp S.L) : ∀ k v, (k, v) ∈ S.L → b.cost ≤ k := fun k v hm => by
 obtain ⟨j, hj, e⟩ := mem_at hm
 have := hp_top hp j hj
 rw [e, nlt_iff] at this
 refine Classical.byContradiction fun hn => ?_
 have : okT S b = true := okT_iff.2 ⟨by omega, by simp only at this; omega⟩
 rw [h] at this; cases this
/-- What the search tells at its end. -/
theorem Clq.cl {st : List It} {lk ot : Int → List It} {D : List Int} {S : Sd} (h : Clq false st lk ot D S) : Cl lk D S := fun u hu ku e => h u hu ku e fun e => by cases e
theorem fin_min (hd : Dat n sa up) (hd' : Dat n sz dn) (h : J n sa sz up dn false Da Dz s) (hf : fin false up dn s = true) {v ka kz : Int} (ha : Wk sa up v ka) (hz : Wk sz dn v kz) : s.b.cost ≤ ka + kz ∨ NC ≤ ka + kz := by
 obtain ⟨f1, f2⟩ := fin_iff.1 hf
 have hbc : s.b.cost ≤ NC := by rcases h.bb with ⟨_, e⟩ | ⟨_, e, _⟩ <;> omega
 refine Classical.byContradiction fun hn => ?_
 have g1 := wk_ok hd ha
 have g2 := wk_ok hd' hz
 obtain ⟨d1, k1, e1, l1⟩ := cover hd h.ia h.ba h.ca.cl hbc (fin_keys f1 h.ia.hp) ha (by omega)
 obtain ⟨d2, k2, e2, l2⟩ := cover hd' h.iz h.bz h.cz.cl hbc (fin_keys f2 h.iz.hp) hz (by omega)
 have := h.mt v d1 d2 k1 k2 e1 e2
 omega
/-- The way that was found costs what is told. -/
theorem fin_sum (hd : Dat n sa up) (hd' : Dat n sz dn) (h : J n sa sz up dn false Da Dz s) (hf : fin false up dn s = true) (hp : s.b.pt ≠ -1) :
  ∃ ka kz, s.a.c s.b.pt = some ka ∧ s.z.c s.b.pt = some kz ∧ s.b.cost = ka + kz := by
 rcases h.bb with ⟨h1, _⟩ | ⟨h0, h1, ka, kz, ka', kz', w1, w2, e1, e2, e3, l1, l2⟩
 ·exact absurd h1 hp
 ·refine ⟨ka', kz', e2, e3, ?_⟩
  have := fin_min hd hd' h hf (h.ia.snd _ _ e2) (h.iz.snd _ _ e3)
  omega
end
/-! ### The way back -/
inductive PC (st : List It) (lk : Int → List It) : List Int → Int → Prop
 | one {k v : Int} (h : (k, v) ∈ st) (hm : ∀ k', (k', v) ∈ st → k ≤ k') : PC st lk [v] k
 | cons {v u ku w : Int} {l : List Int} (h : PC st lk (u :: l) ku) (h2 : (w, v) ∈ lk u) : PC st lk (v :: u :: l) (ku + w)
def pth (f : Int → Int) : Nat → Int → List Int
 | 0, _ => []
 | n + 1, v => match decide (v < 0) with
  | true => []
  | false => v :: pth f n (f v)
theorem pth_ok {n : Int} {st : List It} {lk : Int → List It} {D : List Int} {S : Sd} (h : Inv n st lk D S) (hb : Beg st S) (rk : Int → Nat) (hr : ∀ u w v, (w, v) ∈ lk u → rk u < rk v) :
  ∀ (r : Nat) (v k : Int), rk v ≤ r → S.c v = some k → ∃ N, (∀ j, pth S.f (N + j) v = pth S.f N v) ∧ PC st lk (pth S.f N v) k ∧ (pth S.f N v).length ≤ r + 1 ∧
   (pth S.f N v).head? = some v ∧ (∀ i, i < (pth S.f N v).length → ∃ k', S.c ((pth S.f N v).getD i (-1)) = some k' ∧ S.f ((pth S.f N v).getD i (-1)) = (pth S.f N v).getD (i + 1) (-1)) := by
 intro r
 induction r with
 | zero =>
  intro v k hv e
  have hg := h.rng v k e
  have hv0 : decide (v < 0) = false := decide_eq_false (by omega)
  rcases h.chain v k e with ⟨e1, e2⟩ | ⟨e1, ku, w, e2, e3, e4⟩
  ·have ep : ∀ j, pth S.f (1 + j) v = [v] := fun j => by
    rw [Nat.add_comm]; unfold pth; rw [hv0, e1]
    cases j <;> rfl
   refine ⟨1, fun j => by rw [ep j, ep 0], ?_, ?_, ?_, ?_⟩
   ·rw [show (1 : Nat) = 1 + 0 from rfl, ep 0]; exact .one e2 (fun k' hk' => by obtain ⟨k2, f2, l2⟩ := hb _ _ hk'; rw [e] at f2; cases f2; exact l2)
   ·rw [show pth S.f 1 v = [v] from ep 0]; simp
   ·rw [show pth S.f 1 v = [v] from ep 0]; rfl
   ·rw [show pth S.f 1 v = [v] from ep 0]
    intro i hi
    have : i = 0 := by simpa using hi
    subst this
    exact ⟨k, e, e1⟩
  ·have := hr _ _ _ e3; omega
 | succ r ih =>
  intro v k hv e
  have hg := h.rng v k e
  have hv0 : decide (v < 0) = false := decide_eq_false (by omega)
  rcases h.chain v k e with ⟨e1, e2⟩ | ⟨e1, ku, w, e2, e3, e4⟩
  ·have ep : ∀ j, pth S.f (1 + j) v = [v] := fun j => by
    rw [Nat.add_comm]; unfold pth; rw [hv0, e1]
    cases j <;> rfl
   refine ⟨1, fun j => by rw [ep j, ep 0], ?_, ?_, ?_, ?_⟩
   ·rw [show (1 : Nat) = 1 + 0 from rfl, ep 0]; exact .one e2 (fun k' hk' => by obtain ⟨k2, f2, l2⟩ := hb _ _ hk'; rw [e] at f2; cases f2; exact l2)
   ·rw [show pth S.f 1 v = [v] from ep 0]; simp
   ·rw [show pth S.f 1 v = [v] from ep 0]; rfl
   ·rw [show pth S.f 1 v = [v] from ep 0]
    intro i hi
    have : i = 0 := by simpa using hi
    subst this
    exact ⟨k, e, e1⟩
  ·have hlt := hr _ _ _ e3
   obtain ⟨N, n1, n2, n3, n4, n5⟩ := ih (S.f v) ku (by omega) e2
   have ep : ∀ j, pth S.f (N + 1 + j) v = v :: pth S.f N (S.f v) := fun j => by
    rw [show N + 1 + j = (N + j) + 1 by omega]
    show (match decide (v < 0) with
     | true => []
     | false => v :: pth S.f (N + j) (S.f v)) = _
    rw [hv0, n1 j]
   have ep0 : pth S.f (N + 1) v = v :: pth S.f N (S.f v) := ep 0
   refine ⟨N + 1, fun j => by rw [ep j, ep0], ?_, ?_, ?_, ?_⟩
   ·rw [ep0]
    cases hl : pth S.f N (S.f v) with
    | nil => rw [hl] at n4; cases n4
    | cons u l =>
     rw [hl] at n2 n4
     have : u = S.f v := by simpa using n4
     subst this
     rw [e4]; exact .cons n2 e3
   ·rw [ep0]; simp; exact n3
   ·rw [ep0]; rfl
   ·rw [ep0]
    intro i hi
    cases i with
    | zero =>
     refine ⟨k, e, ?_⟩
     cases hl : pth S.f N (S.f v) with
     | nil => rw [hl] at n4; cases n4
     | cons u l =>
      rw [hl] at n4
      have : u = S.f v := by simpa using n4
      subst this
      rfl
    | succ i => exact n5 i (by simpa using hi)
end Go.HeapL
namespace Go.HeapL
/-! ### Least costs by definition -/
theorem int_min (P : Int → Prop) (h0 : ∀ d, P d → 0 ≤ d) (h : ∃ d, P d) : ∃ d, P d ∧ ∀ e, P e → d ≤ e := by
 obtain ⟨d, hd⟩ := h
 have key : ∀ (n : Nat) (d : Int), d.toNat ≤ n → P d → ∃ d, P d ∧ ∀ e, P e → d ≤ e := by
  intro n
  induction n with
  | zero =>
   intro d hn hd
   exact ⟨d, hd, fun e he => by have := h0 e he; have := h0 d hd; omega⟩
  | succ n ih =>
   intro d hn hd
   by_cases hc : ∃ e, P e ∧ e < d
   ·obtain ⟨e, he, hlt⟩ := hc
    exact ih e (by have := h0 e he; have := h0 d hd; omega) he
   ·exact ⟨d, hd, fun e he => Classical.byContradiction fun hn => hc ⟨e, he, by omega⟩⟩
 exact key d.toNat d (Nat.le_refl _) hd
/-- A cost that is the least of those told, or none below 2^62. -/
def IsMin (P : Int → Prop) (x : Int) : Prop := x ≤ NC ∧ (∀ d, P d → x ≤ d ∨ NC ≤ d) ∧ (x < NC → P x)
theorem IsMin.uniq {P : Int → Prop} {x y : Int} (h : IsMin P x) (k : IsMin P y) : x = y := by
 obtain ⟨h1, h2, h3⟩ := h
 obtain ⟨k1, k2, k3⟩ := k
 by_cases hx : x < NC
 ·have := k2 x (h3 hx)
  by_cases hy : y < NC
  ·have := h2 y (k3 hy); omega
  ·omega
 ·by_cases hy : y < NC
  ·have := h2 y (k3 hy); omega
  ·omega
theorem IsMin.ex (P : Int → Prop) (h0 : ∀ d, P d → 0 ≤ d) : ∃ x, IsMin P x := by
 by_cases h : ∃ d, P d ∧ d < NC
 ·obtain ⟨d, ⟨h1, h2⟩, h3⟩ := int_min (fun d => P d ∧ d < NC) (fun d h => h0 d h.1) h
  refine ⟨d, by omega, fun e he => ?_, fun _ => h1⟩
  by_cases hl : e < NC
  ·exact .inl (h3 e ⟨he, hl⟩)
  ·exact .inr (by omega)
 ·exact ⟨NC, Int.le_refl _, fun d hd => .inr (Classical.byContradiction fun hn => h ⟨d, hd, by omega⟩), fun h => absurd h (by omega)⟩
open Classical in
noncomputable def minV (P : Int → Prop) : Int := if h : ∃ x, IsMin P x then Classical.choose h else 0
theorem minV_ok {P : Int → Prop} (h : ∃ x, IsMin P x) : IsMin P (minV P) := by
 unfold minV; rw [dif_pos h]; exact Classical.choose_spec h
theorem minV_eq {P : Int → Prop} {x : Int} (h : IsMin P x) : minV P = x := (minV_ok ⟨x, h⟩).uniq h
/-- A walk begins at one of its starts. -/
theorem wk_split {st : List It} {lk : Int → List It} {v d : Int} : Wk st lk v d ↔ ∃ k s, (k, s) ∈ st ∧ Wk [(0, s)] lk v (d - k) := by
 constructor
 ·intro h
  induction h with
  | start h => exact ⟨_, _, h, by rw [Int.sub_self]; exact .start (by simp)⟩
  | step h h2 ih =>
   obtain ⟨k, s, h3, h4⟩ := ih
   refine ⟨k, s, h3, ?_⟩
   have := Wk.step h4 h2
   rw [show ∀ a b c : Int, a - b + c = a + c - b from fun a b c => by omega] at this
   exact this
 ·rintro ⟨k, s, h, h2⟩
  have key : ∀ {v e : Int}, Wk [(0, s)] lk v e → Wk st lk v (k + e) := by
   intro v e h2
   induction h2 with
   | start hm =>
    simp only [List.mem_singleton, Prod.mk.injEq] at hm
    obtain ⟨rfl, rfl⟩ := hm
    rw [Int.add_zero]; exact .start h
   | step h3 h4 ih => rw [← Int.add_assoc]; exact .step ih h4
  have := key h2
  rw [show k + (d - k) = d by omega] at this
  exact this
def two (sa sz : List It) (up dn : Int → List It) (x : Int) : Prop := ∃ v ka kz, Wk sa up v ka ∧ Wk sz dn v kz ∧ x = ka + kz
theorem fin_isMin {n : Int} {sa sz : List It} {up dn : Int → List It} {Da Dz : List Int} {s : St} (hd : Dat n sa up) (hd' : Dat n sz dn) (h : J n sa sz up dn false Da Dz s) (hf : fin false up dn s = true) : IsMin (two sa sz up dn) s.b.cost := by
 refine ⟨by rcases h.bb with ⟨_, e⟩ | ⟨_, e, _⟩ <;> omega, ?_, ?_⟩
 ·rintro d ⟨v, ka, kz, h1, h2, rfl⟩
  exact fin_min hd hd' h hf h1 h2
 ·intro hlt
  rcases h.bb with ⟨_, e⟩ | ⟨_, _, ka, kz, _, _, w1, w2, e1, _⟩
  ·omega
  ·exact ⟨_, ka, kz, w1, w2, e1⟩
/-- Of a pair of starts and ends, of all of them. -/
theorem two_split {sa sz : List It} {up dn : Int → List It} (x : Int) : two sa sz up dn x ↔ ∃ p ∈ sa, ∃ e ∈ sz, two [(0, p.2)] [(0, e.2)] up dn (x - p.1 - e.1) := by
 constructor
 ·rintro ⟨v, ka, kz, h1, h2, rfl⟩
  obtain ⟨k, s, m1, w1⟩ := wk_split.1 h1
  obtain ⟨k', s', m2, w2⟩ := wk_split.1 h2
  exact ⟨(k, s), m1, (k', s'), m2, v, _, _, w1, w2, by simp only; omega⟩
 ·rintro ⟨⟨k, s⟩, m1, ⟨k', s'⟩, m2, v, ka, kz, w1, w2, e⟩
  simp only at e w1 w2
  refine ⟨v, k + ka, k' + kz, wk_split.2 ⟨k, s, m1, ?_⟩, wk_split.2 ⟨k', s', m2, ?_⟩, by omega⟩
  ·rw [show k + ka - k = ka by omega]; exact w1
  ·rw [show k' + kz - k' = kz by omega]; exact w2
end Go.HeapL
namespace Go.HeapL
/-! ### Least costs by rounds -/
def updF1 (c : Nat → Int) (j : Nat) (x : Int) : Nat → Int := fun k => if k = j then x else c k
section
variable {m n : Nat} {ea eb ew : Nat → Int} {rk : Int → Int} {fr : Int} {t i : Nat} {c : Nat → Int}
end
end Go.HeapL
namespace Go.HeapL
/-! ### Least costs of pairs, one behind the other -/
theorem IsMin.none {P : Int → Prop} (h : ∀ d, ¬ P d) : IsMin P NC := ⟨Int.le_refl _, fun d hd => absurd hd (h d), fun h => absurd h (by omega)⟩
theorem IsMin.step {P T P' : Int → Prop} {b n k : Int} (h : IsMin P b) (ht : IsMin T n) (h0 : ∀ d, T d → 0 ≤ d) (hk : 0 ≤ k) (hp : ∀ d, P' d ↔ P d ∨ T (d - k)) :
  (n < NC → k + n < b → IsMin P' (k + n)) ∧ (¬ (n < NC ∧ k + n < b) → IsMin P' b) := by
 obtain ⟨h1, h2, h3⟩ := h
 obtain ⟨t1, t2, t3⟩ := ht
 constructor
 ·intro a c
  refine ⟨by omega, fun d hd => ?_, fun _ => (hp _).2 (.inr ?_)⟩
  ·rcases (hp d).1 hd with hd | hd
   ·have := h2 d hd; omega
   ·have := t2 _ hd; have := h0 _ hd; omega
  ·rw [show k + n - k = n by omega]; exact t3 a
 ·intro hn
  refine ⟨h1, fun d hd => ?_, fun hb => (hp _).2 (.inl (h3 hb))⟩
  rcases (hp d).1 hd with hd | hd
  ·exact h2 d hd
  ·have := t2 _ hd; have := h0 _ hd
   refine Classical.byContradiction fun hc => hn ⟨by omega, by omega⟩
end Go.HeapL
namespace Go.Proofs.YtnkbkfjgbejhfaaGreat
open Go.Proofs.YtnkbkfjgbejhfaaGreat.Am Go.HeapL
def itR (L : List It) : Nat → List A := fun i => [.int .i64 (L.getD i (0, 0)).1, .int .i64 (L.getD i (0, 0)).2]
def atH (L : List It) : List KC → Bool
 | [.int v] => hasL L v
 | _ => false
def atV (L : List It) : List KC → A
 | [.int v] => .int .i64 ((ix L v : Nat) : Int)
 | _ => .junk
abbrev atB (L : List It) : Blk := .mapb false [.int .i64] (atH L) (atV L)
theorem row_set {L : List It} {i : Nat} {x : It} (h : i < L.length) (j : Nat) : updRow (itR L) i [.int .i64 x.1, .int .i64 x.2] j = itR (L.set i x) j := by
 have := gt_set (j := j) (x := x) h
 unfold gt at this
 unfold updRow itR
 rw [this]
 split <;> rfl
theorem row_sw {L : List It} {i k : Nat} (hi : i < L.length) (hk : k < L.length) (j : Nat) :
  updRow (updRow (itR L) i [.int .i64 (L.getD k (0, 0)).1, .int .i64 (L.getD k (0, 0)).2]) k [.int .i64 (L.getD i (0, 0)).1, .int .i64 (L.getD i (0, 0)).2] j = itR (sw L i k) j := by
 have h := gt_sw (j := j) hi hk
 unfold gt at h
 unfold updRow itR
 rw [h]
 split
 ·rfl
 ·split <;> rfl
theorem swap_has {L : List It} {i k : Nat} (hi : i < L.length) (hk : k < L.length) (key : List KC) :
  putH (putH (atH L) [.int (L.getD k (0, 0)).2] true) [.int (L.getD i (0, 0)).2] true key = atH (sw L i k) key := by
 have hp : ∀ v, hasL (sw L i k) v = hasL L v := has_perm (sw_perm hi hk)
 have h1 : hasL L (L.getD i (0, 0)).2 = true := has_at hi
 have h2 : hasL L (L.getD k (0, 0)).2 = true := has_at hk
 unfold putH
 split
 ·rename_i e; subst e; exact ((hp _).trans h1).symm
 ·split
  ·rename_i e; subst e; exact ((hp _).trans h2).symm
  ·unfold atH; split
   ·exact (hp _).symm
   ·rfl
theorem swap_val {L : List It} {i k : Nat} (hn : Nd L) (hi : i < L.length) (hk : k < L.length) (key : List KC) (h : putH (putH (atH L) [.int (L.getD k (0, 0)).2] true) [.int (L.getD i (0, 0)).2] true key = true) :
  putV (putV (atV L) [.int (L.getD k (0, 0)).2] (.int .i64 (i : Int))) [.int (L.getD i (0, 0)).2] (.int .i64 (k : Int)) key = atV (sw L i k) key := by
 have hn' : Nd (sw L i k) := (nd_perm (sw_perm hi hk)).2 hn
 have hix : ∀ j, j < L.length → ix (sw L i k) (gt (sw L i k) j).2 = j := fun j hj => ix_gt hn' (by rw [sw_len]; exact hj)
 have hk' := hix k hk
 rw [gt_sw hi hk, if_pos rfl] at hk'
 have hi' := hix i hi
 rw [gt_sw hi hk, if_pos rfl] at hi'
 rw [swap_has hi hk] at h
 unfold putV
 split
 ·rename_i e; subst e
  show _ = A.int .i64 ((ix (sw L i k) (gt L i).2 : Nat) : Int)
  rw [hk']
 ·rename_i h1
  split
  ·rename_i e; subst e
   show _ = A.int .i64 ((ix (sw L i k) (gt L k).2 : Nat) : Int)
   by_cases e : i = k
   ·subst e; exact absurd rfl h1
   ·rw [if_neg e] at hi'
    rw [hi']
  ·rename_i h2
   unfold atH at h
   split at h
   ·rename_i v
    show A.int .i64 ((ix L v : Nat) : Int) = A.int .i64 ((ix (sw L i k) v : Nat) : Int)
    rw [has_perm (sw_perm hi hk)] at h
    have hl := ix_lt h
    have ha := ix_at h
    have hj := hix _ hl
    rw [gt_sw hi hk] at hj
    rw [if_neg (fun e => h2 (by rw [← ha, e]; rfl)), if_neg (fun e => h1 (by rw [← ha, e]; rfl)), ha] at hj
    rw [hj]
   ·cases h
theorem del_has {L : List It} (hl : 0 < L.length) (hn : Nd L) (key : List KC) : putH (atH L) [.int (L.getD (L.length - 1) (0, 0)).2] false key = atH L.dropLast key := by
 have hp := drop_perm hl
 have hn2 : Nd (gt L (L.length - 1) :: L.dropLast) := (nd_perm hp).2 hn
 unfold Nd at hn2
 rw [List.map_cons, List.nodup_cons] at hn2
 have hm : ∀ v, hasL L v = true ↔ v = (gt L (L.length - 1)).2 ∨ hasL L.dropLast v = true := by
  intro v
  rw [← has_perm hp v, hasL_iff, hasL_iff]
  constructor
  ·rintro ⟨x, hx⟩
   rcases List.mem_cons.1 hx with e | e
   ·exact .inl (by rw [← e])
   ·exact .inr ⟨x, e⟩
  ·rintro (e | ⟨x, hx⟩)
   ·exact ⟨_, List.mem_cons.2 (.inl (Prod.ext rfl e))⟩
   ·exact ⟨x, List.mem_cons.2 (.inr hx)⟩
 unfold putH
 split
 ·rename_i e; subst e
  show false = hasL L.dropLast (gt L (L.length - 1)).2
  cases hh : hasL L.dropLast (gt L (L.length - 1)).2 with
  | false => rfl
  | true =>
   obtain ⟨x, hx⟩ := hasL_iff.1 hh
   exact absurd (List.mem_map.2 ⟨_, hx, rfl⟩) hn2.1
 ·rename_i hne
  unfold atH
  split
  ·rename_i v
   rw [Bool.eq_iff_iff, hm]
   constructor
   ·rintro (e | e)
    ·exact absurd (by rw [e]; rfl) hne
    ·exact e
   ·exact .inr
  ·rfl
theorem del_val {L : List It} (hl : 0 < L.length) (hn : Nd L) (key : List KC) (h : putH (atH L) [.int (L.getD (L.length - 1) (0, 0)).2] false key = true) : atV L key = atV L.dropLast key := by
 rw [del_has hl hn] at h
 unfold atH at h
 split at h
 ·rename_i v
  show A.int .i64 ((ix L v : Nat) : Int) = A.int .i64 ((ix L.dropLast v : Nat) : Int)
  have h1 := ix_lt h
  have h2 := ix_at h
  have h3 : ix L.dropLast v + 1 < L.length := by simp at h1; omega
  rw [gt_drop h3] at h2
  have := ix_gt hn (i := ix L.dropLast v) (by omega)
  rw [h2] at this
  rw [this]
 ·cases h
theorem push_has {L : List It} {x : It} (key : List KC) : putH (atH L) [.int x.2] true key = atH (L ++ [x]) key := by
 unfold putH
 split
 ·rename_i e; subst e
  show true = hasL (L ++ [x]) x.2
  exact (hasL_iff.2 ⟨x.1, by simp⟩).symm
 ·rename_i hne
  unfold atH
  split
  ·rename_i v
   rw [Bool.eq_iff_iff, hasL_iff, hasL_iff]
   constructor
   ·rintro ⟨k, hk⟩; exact ⟨k, by simp [hk]⟩
   ·rintro ⟨k, hk⟩
    rw [List.mem_append, List.mem_singleton] at hk
    rcases hk with hk | hk
    ·exact ⟨k, hk⟩
    ·exact absurd (by rw [← hk]) hne
  ·rfl
theorem push_val {L : List It} {x : It} (hn : Nd L) (hx : hasL L x.2 = false) (key : List KC) (h : putH (atH L) [.int x.2] true key = true) : putV (atV L) [.int x.2] (.int .i64 (L.length : Int)) key = atV (L ++ [x]) key := by
 have hn' : Nd (L ++ [x]) := by
  unfold Nd at *
  rw [List.map_append, List.nodup_append]
  refine ⟨hn, by simp, ?_⟩
  intro a ha b hb
  simp only [List.map_cons, List.map_nil, List.mem_singleton] at hb
  subst hb
  obtain ⟨⟨k, u⟩, hm, e⟩ := List.mem_map.1 ha
  intro e'
  simp only at e; subst e; subst e'
  rw [hasL_iff.2 ⟨k, hm⟩] at hx; cases hx
 have hg : ∀ j, j < L.length → gt (L ++ [x]) j = gt L j := fun j hj => by
  unfold gt; rw [List.getD_eq_getElem?_getD, List.getElem?_append_left hj, List.getD_eq_getElem?_getD]
 unfold putV
 split
 ·rename_i e; subst e
  show _ = A.int .i64 ((ix (L ++ [x]) x.2 : Nat) : Int)
  have h1 := ix_gt hn' (i := L.length) (by simp)
  have h2 : gt (L ++ [x]) L.length = x := by rw [gt_eq (by simp)]; simp
  rw [h2] at h1
  rw [h1]
 ·rename_i hne
  unfold putH at h
  rw [if_neg hne] at h
  unfold atH at h
  split at h
  ·rename_i v
   show A.int .i64 ((ix L v : Nat) : Int) = A.int .i64 ((ix (L ++ [x]) v : Nat) : Int)
   have h1 := ix_lt h
   have h2 := ix_at h
   have h3 := ix_gt hn' (i := ix L v) (by simp; omega)
   rw [hg _ h1, h2] at h3
   rw [h3]
  ·cases h
theorem set_has {L : List It} {i : Nat} (hi : i < L.length) {x : It} (e : (gt L i).2 = x.2) (key : List KC) : atH L key = atH (L.set i x) key := by
 unfold atH
 split
 ·rename_i v
  rw [Bool.eq_iff_iff, hasL_iff, hasL_iff]
  constructor
  ·rintro ⟨k, hk⟩
   obtain ⟨j, hj, f⟩ := mem_at hk
   have hg := gt_set (j := j) (x := x) hi
   by_cases ej : j = i
   ·subst ej
    refine ⟨x.1, ?_⟩
    rw [if_pos rfl] at hg
    have := mem_gt (L := L.set j x) (i := j) (by simpa using hj)
    rw [hg] at this
    rw [f] at e; simp only at e
    rw [show (x.1, v) = x from Prod.ext rfl e]; exact this
   ·rw [if_neg ej, f] at hg
    have := mem_gt (L := L.set i x) (i := j) (by simpa using hj)
    rw [hg] at this
    exact ⟨k, this⟩
  ·rintro ⟨k, hk⟩
   obtain ⟨j, hj, f⟩ := mem_at hk
   simp only [List.length_set] at hj
   rw [gt_set hi] at f
   split at f
   ·rename_i ej; subst ej
    have := mem_gt hi
    subst f
    exact ⟨(gt L j).1, by rw [show ((gt L j).1, v) = gt L j from Prod.ext rfl e.symm]; exact this⟩
   ·have := mem_gt hj
    rw [f] at this; exact ⟨k, this⟩
 ·rfl
theorem set_val {L : List It} (hn : Nd L) {i : Nat} (hi : i < L.length) {x : It} (e : (gt L i).2 = x.2) (key : List KC) (h : atH L key = true) : atV L key = atV (L.set i x) key := by
 unfold atH at h
 split at h
 ·rename_i v
  show A.int .i64 ((ix L v : Nat) : Int) = A.int .i64 ((ix (L.set i x) v : Nat) : Int)
  have h1 := ix_lt h
  have h2 := ix_at h
  have h3 := ix_gt (set_nd hn hi e) (i := ix L v) (by simpa using h1)
  rw [gt_set hi] at h3
  split at h3
  ·rename_i ej
   rw [← e, ← ej, h2] at h3
   subst ej
   rw [h3]
  ·rw [h2] at h3; rw [h3]
 ·cases h
end Go.Proofs.YtnkbkfjgbejhfaaGreat
namespace Go.Proofs.YtnkbkfjgbejhfaaGreat
open Go.Proofs.YtnkbkfjgbejhfaaGreat.Am Go.HeapL
variable [Inhabited DRT]
variable {G : GInv}
/-! ### The heap: its walks -/
theorem less_c (a b : It) : ACalls Tryz.prog G 58 [.agg [.int .i64 a.1, .int .i64 a.2], .agg [.int .i64 b.1, .int .i64 b.2]] (.sb (lt a b)) := by
 refine ACalls.of_WA ttok Tryz.func58 rfl rfl _ rfl ?_
 conv => whnf
 repeat' (first | refine sq ?_ | refine bk ?_ | ((first | refine rg ttok ?_ | refine dw ttok mixed ?_ | refine cd ?_ | refine sk ?_ | refine xt ?_ | refine rt ?_); conv => whnf) | (refine And.intro (fun h => ?_) (fun h => ?_) <;> (try simp only [brsA] at h) <;> conv => whnf) | ((first | refine wf ?_ | refine wp' ?_ | refine ai ?_ | refine And.intro rfl ?_ | refine an ?_ | fail); conv => whnf))
 ·rename_i h1
  unfold lt
  rw [decide_eq_false h1, decide_eq_true h]; simp
 ·rename_i h1
  unfold lt
  rw [decide_eq_false h1, decide_eq_false h]; rfl
 ·unfold lt
  rw [decide_eq_true h]; rfl
theorem putV_putV (v : List KC → A) (k : List KC) (x y : A) : putV (putV v k x) k y = putV v k y := by
 funext j; unfold putV; split <;> rfl
abbrev hBs (L : List It) : List Blk := [.box 81 [.own 2, .omap 3], .row 41 2 L.length (itR L), atB L]
theorem swap_c (L : List It) (i k : Nat) (hn : Nd L) (hi : i < L.length) (hk : k < L.length) (hl : L.length ≤ 1000000) :
  MCalls Tryz.prog G 59 [.ref 1 0, .int .i64 (i : Int), .int .i64 (k : Int)] (.ghost [.junk, .junk, .junk, .ref 1 0, .junk, .omap 3] :: hBs L) (.tup [])
   (.ghost [.junk, .junk, .junk, .ref 1 0, .junk, .omap 3] :: hBs (sw L i k)) := by
 have hsl := sw_len L i k
 have hr := fun j => row_sw hi hk j
 have hh := fun key => swap_has hi hk key
 have hv := fun key => swap_val hn hi hk key
 unfold hBs
 rw [hsl]
 generalize sw L i k = M at *
 by_cases hne : k = i
 ·subst hne
  refine MCalls.of_WA ttok Tryz.func59 rfl rfl _ rfl ?_
  conv => whnf
  repeat' (first | ((rw [updRow_eq]; conv => whnf)) | ((refine WA_trkR (id := 1) 3 ?_; (conv => whnf); refine dw ttok mixed ?_; conv => whnf)) | refine sq ?_ | refine bk ?_ | ((first | refine rg ttok ?_ | refine dw ttok mixed ?_ | refine cd ?_ | refine sk ?_ | refine xt ?_ | refine rt ?_); conv => whnf) | (refine And.intro (fun h => ?_) (fun h => ?_) <;> (try simp only [brsA] at h) <;> conv => whnf) | ((first | refine wf ?_ | refine wp' ?_ | refine ai ?_ | refine And.intro rfl ?_ | refine an ?_ | fail); conv => whnf))
  exact ⟨Or.inl fun j _ => hr j, rfl, rfl, fun key => hh key, fun key h => by have h2 := hv key h; simp only [putV_putV] at h2 ⊢; exact h2⟩
 ·refine MCalls.of_WA ttok Tryz.func59 rfl rfl _ rfl ?_
  conv => whnf
  repeat' (first | ((rw [updRow_ne (show (k : Int).toNat ≠ (i : Int).toNat by omega)]; conv => whnf)) | ((rw [updRow_ne (show (i : Int).toNat ≠ (k : Int).toNat by omega)]; conv => whnf)) | ((rw [updRow_eq]; conv => whnf)) | ((refine WA_trkR (id := 1) 3 ?_; (conv => whnf); refine dw ttok mixed ?_; conv => whnf)) | refine sq ?_ | refine bk ?_ | ((first | refine rg ttok ?_ | refine dw ttok mixed ?_ | refine cd ?_ | refine sk ?_ | refine xt ?_ | refine rt ?_); conv => whnf) | (refine And.intro (fun h => ?_) (fun h => ?_) <;> (try simp only [brsA] at h) <;> conv => whnf) | ((first | refine wf ?_ | refine wp' ?_ | refine ai ?_ | refine And.intro rfl ?_ | refine an ?_ | fail); conv => whnf))
  exact ⟨Or.inl fun j _ => hr j, rfl, rfl, fun key => hh key, fun key h => by have h2 := hv key h; simp only [putV_putV] at h2 ⊢; exact h2⟩
theorem len_c (L : List It) (hl : L.length ≤ 1000000) : MCalls Tryz.prog G 60 [.ref 1 0] (.ghost [.junk, .ref 1 0, .junk, .omap 3] :: hBs L) (.int .i64 (L.length : Int)) (.ghost [.junk, .ref 1 0, .junk, .omap 3] :: hBs L) := by
 refine MCalls.of_WA ttok Tryz.func60 rfl rfl _ rfl ?_
 conv => whnf
 repeat' (first | refine sq ?_ | refine bk ?_ | ((first | refine rg ttok ?_ | refine dw ttok mixed ?_ | refine cd ?_ | refine sk ?_ | refine xt ?_ | refine rt ?_); conv => whnf) | (refine And.intro (fun h => ?_) (fun h => ?_) <;> (try simp only [brsA] at h) <;> conv => whnf) | ((first | refine wf ?_ | refine wp' ?_ | refine ai ?_ | refine And.intro rfl ?_ | refine an ?_ | fail); conv => whnf))
 repeat (first | exact fa | ((first | refine fb ?_ | (refine And.intro ?_ ?_; rotate_left)); conv => whnf))
theorem least_yes (L : List It) (h : 0 < L.length) (hl : L.length ≤ 1000000) : MCalls Tryz.prog G 37 [.ref 1 0] (.ghost [.junk, .ref 1 0, .junk, .omap 3] :: hBs L) (.tup [.agg [.int .i64 (gt L 0).1, .int .i64 (gt L 0).2], .bool true]) (.ghost [.junk, .ref 1 0, .junk, .omap 3] :: hBs L) := by
 have h1 := len_c (G := G) L hl
 refine MCalls.of_WA ttok Tryz.func37 rfl rfl _ rfl ?_
 conv => whnf
 repeat' (first | refine sq ?_ | refine bk ?_ | ((first | refine rg ttok ?_ | refine dw ttok mixed ?_ | refine cd ?_ | refine sk ?_ | refine xt ?_ | refine rt ?_); conv => whnf) | (refine And.intro (fun h => ?_) (fun h => ?_) <;> (try simp only [brsA] at h) <;> conv => whnf) | (refine Or.inr (Or.inl ?_); (conv => whnf); refine ⟨_, _, h1, ?_⟩; conv => whnf) | ((first | refine wf ?_ | refine wp' ?_ | refine ai ?_ | refine And.intro rfl ?_ | refine an ?_ | fail); conv => whnf))
 repeat (first | exact fa | ((first | refine fb ?_ | (refine And.intro ?_ ?_; rotate_left)); conv => whnf))
theorem least_no (L : List It) (h : L.length = 0) : MCalls Tryz.prog G 37 [.ref 1 0] (.ghost [.junk, .ref 1 0, .junk, .omap 3] :: hBs L) (.tup [.agg [.int .i64 0, .int .i64 0], .bool false]) (.ghost [.junk, .ref 1 0, .junk, .omap 3] :: hBs L) := by
 have h1 := len_c (G := G) L (by omega)
 refine MCalls.of_WA ttok Tryz.func37 rfl rfl _ rfl ?_
 conv => whnf
 repeat' (first | refine sq ?_ | refine bk ?_ | ((first | refine rg ttok ?_ | refine dw ttok mixed ?_ | refine cd ?_ | refine sk ?_ | refine xt ?_ | refine rt ?_); conv => whnf) | (refine And.intro (fun h => ?_) (fun h => ?_) <;> (try simp only [brsA] at h) <;> conv => whnf) | (refine Or.inr (Or.inl ?_); (conv => whnf); refine ⟨_, _, h1, ?_⟩; conv => whnf) | ((first | refine wf ?_ | refine wp' ?_ | refine ai ?_ | refine And.intro rfl ?_ | refine an ?_ | fail); conv => whnf))
 repeat (first | exact fa | ((first | refine fb ?_ | (refine And.intro ?_ ?_; rotate_left)); conv => whnf))
theorem up_c (L : List It) (i : Nat) (hn : Nd L) (hi : i < L.length) (hl : L.length ≤ 1000000) :
  MCalls Tryz.prog G 35 [.ref 1 0, .int .i64 (i : Int)] (.ghost [.junk, .junk, .ref 1 0, .junk, .omap 3] :: hBs L) (.tup []) (.ghost [.junk, .junk, .ref 1 0, .junk, .omap 3] :: hBs (up L i)) := by
 refine MCalls.of_WA ttok Tryz.func35 rfl rfl _ rfl ?_
 conv => whnf
 repeat (first | refine sq ?_ | refine bk ?_ | ((first | refine rg ttok ?_ | refine dw ttok mixed ?_ | refine cd ?_ | refine sk ?_ | refine xt ?_ | refine rt ?_); conv => whnf))
 refine WA_loopI (ι := List It × Nat) (fun x => Nd x.1 ∧ x.2 < x.1.length ∧ x.1.length ≤ 1000000 ∧ up x.1 x.2 = up L i) (fun x => match x with | (L', i') => [(1, .int .i64 (i' : Int))]) (fun x => match x with | (L', i') => .ghost [.junk, .junk, .ref 1 0, .junk, .omap 3] :: hBs L') (fun x => x.2) (L, i) ⟨hn, hi, hl, rfl⟩ ?_ ?_
 ·conv => whnf
  repeat (first | exact fa | ((first | refine fb ?_ | (refine And.intro ?_ ?_; rotate_left)); conv => whnf))
 ·rintro ⟨M, j⟩ ⟨hm, hj, hml, he⟩
  have hm : Nd M := hm
  have hj : j < M.length := hj
  have hml : M.length ≤ 1000000 := hml
  have he : up M j = up L i := he
  have hp : 0 < (j : Int) → ((j : Int) - 1).tdiv 2 = (((j - 1) / 2 : Nat) : Int) := fun h => by
   rw [show (j : Int) - 1 = ((j - 1 : Nat) : Int) by omega]; rfl
  have hs : 0 < (j : Int) → MCalls Tryz.prog G 59 [.ref 1 0, .int .i64 (j : Int), .int .i64 (((j : Int) - 1).tdiv 2)] (.ghost [.junk, .junk, .junk, .ref 1 0, .junk, .omap 3] :: hBs M) (.tup [])
   (.ghost [.junk, .junk, .junk, .ref 1 0, .junk, .omap 3] :: hBs (sw M j ((j - 1) / 2))) := fun h => by rw [hp h]; exact swap_c M j _ hm hj (by omega) hml
  conv => whnf
  repeat' (first | refine sq ?_ | refine bk ?_ | ((first | refine rg ttok ?_ | refine dw ttok mixed ?_ | refine cd ?_ | refine sk ?_ | refine xt ?_ | refine rt ?_); conv => whnf) | (refine And.intro (fun h => ?_) (fun h => ?_) <;> (try simp only [brsA] at h) <;> conv => whnf) | (refine Or.inl ?_; (conv => whnf); refine ⟨_, less_c _ _, ?_⟩; conv => whnf) | (refine Or.inr (Or.inl ?_); (conv => whnf); refine ⟨_, _, hs (by omega), ?_⟩; conv => whnf) | ((first | refine wf ?_ | refine wp' ?_ | refine ai ?_ | refine And.intro rfl ?_ | refine an ?_ | fail); conv => whnf))
  ·rename_i h0
   rw [hp h0] at h
   have e : up M j = up (sw M j ((j - 1) / 2)) ((j - 1) / 2) := by
    conv => lhs; rw [up]
    rw [dif_pos ⟨by omega, h⟩]
   refine ⟨(sw M j ((j - 1) / 2), (j - 1) / 2), ⟨(nd_perm (sw_perm hj (by omega))).2 hm, (by show (j - 1) / 2 < (sw M j ((j - 1) / 2)).length; rw [sw_len]; omega), (by show (sw M j ((j - 1) / 2)).length ≤ 1000000; rw [sw_len]; exact hml), (by show up (sw M j ((j - 1) / 2)) ((j - 1) / 2) = up L i; rw [← e]; exact he)⟩, (by show (j - 1) / 2 < j; omega), ?_⟩
   conv => whnf
   repeat (first | exact fa | ((first | refine fb ?_ | (refine And.intro ?_ ?_; rotate_left)); conv => whnf))
   exact hp h0
  ·rename_i h0
   rw [hp h0] at h
   have e : up M j = M := by
    rw [up, dif_neg]
    rintro ⟨_, h2⟩
    rw [show lt (gt M j) (gt M ((j - 1) / 2)) = false from h] at h2; cases h2
   rw [← he, e]
   exact ⟨rfl, Or.inl fun _ _ => rfl, rfl, rfl, fun _ => rfl, fun _ _ => rfl⟩
  ·have e : up M j = M := by
    rw [up, dif_neg]
    rintro ⟨h1, _⟩; omega
   rw [← he, e]
   exact ⟨rfl, Or.inl fun _ _ => rfl, rfl, rfl, fun _ => rfl, fun _ _ => rfl⟩
end Go.Proofs.YtnkbkfjgbejhfaaGreat
namespace Go.Proofs.YtnkbkfjgbejhfaaGreat
open Go.Proofs.YtnkbkfjgbejhfaaGreat.Am Go.HeapL
variable [Inhabited DRT]
variable {G : GInv}
theorem down_c (L : List It) (i : Nat) (hn : Nd L) (hi : i < L.length ∨ (i = 0 ∧ L.length = 0)) (hl : L.length ≤ 1000000) :
  MCalls Tryz.prog G 36 [.ref 1 0, .int .i64 (i : Int)] (.ghost [.junk, .junk, .ref 1 0, .junk, .omap 3] :: hBs L) (.tup []) (.ghost [.junk, .junk, .ref 1 0, .junk, .omap 3] :: hBs (dn L i)) := by
 refine MCalls.of_WA ttok Tryz.func36 rfl rfl _ rfl ?_
 conv => whnf
 repeat (first | refine sq ?_ | refine bk ?_ | ((first | refine rg ttok ?_ | refine dw ttok mixed ?_ | refine cd ?_ | refine sk ?_ | refine xt ?_ | refine rt ?_); conv => whnf))
 refine WA_loopI (ι := List It × Nat) (fun x => Nd x.1 ∧ (x.2 < x.1.length ∨ (x.2 = 0 ∧ x.1.length = 0)) ∧ x.1.length ≤ 1000000 ∧ dn x.1 x.2 = dn L i) (fun x => match x with | (L', i') => [(1, .int .i64 (i' : Int))]) (fun x => match x with | (L', i') => .ghost [.junk, .junk, .ref 1 0, .junk, .omap 3] :: hBs L') (fun x => x.1.length - x.2) (L, i) ⟨hn, hi, hl, rfl⟩ ?_ ?_
 ·conv => whnf
  repeat (first | exact fa | ((first | refine fb ?_ | (refine And.intro ?_ ?_; rotate_left)); conv => whnf))
 ·rintro ⟨M, j⟩ ⟨hm, hj, hml, he⟩
  have hm : Nd M := hm
  have hj : j < M.length ∨ (j = 0 ∧ M.length = 0) := hj
  have hml : M.length ≤ 1000000 := hml
  have he : dn M j = dn L i := he
  conv => whnf
  repeat' (first | refine sq ?_ | refine bk ?_ | ((first | refine rg ttok ?_ | refine dw ttok mixed ?_ | refine cd ?_ | refine sk ?_ | refine xt ?_ | refine rt ?_); conv => whnf) | (refine And.intro (fun h => ?_) (fun h => ?_) <;> (try simp only [brsA] at h) <;> conv => whnf) | ((first | refine wf ?_ | refine wp' ?_ | refine ai ?_ | refine And.intro rfl ?_ | refine an ?_ | fail); conv => whnf))
  refine WA_loopI (ι := Nat × Nat) (fun x => (x.1 = 2 * j + 1 ∧ x.2 = j) ∨ (x.1 = 2 * j + 2 ∧ x.2 = c1 M j) ∨ (x.1 = 2 * j + 3 ∧ x.2 = ch M j)) (fun x => match x with | (k, a) => [(5, .int .i64 (k : Int)), (4, .int .i64 (a : Int))]) (fun _ => .ghost [.junk, .junk, .ref 1 0, .junk, .omap 3] :: hBs M) (fun x => 2 * j + 3 - x.1) (2 * j + 1, j) (.inl ⟨rfl, rfl⟩) ?_ ?_
  ·conv => whnf
   repeat (first | exact fa | ((first | refine fb ?_ | (refine And.intro ?_ ?_; rotate_left)); conv => whnf))
  ·rintro ⟨k, a⟩ hI
   have hI : (k = 2 * j + 1 ∧ a = j) ∨ (k = 2 * j + 2 ∧ a = c1 M j) ∨ (k = 2 * j + 3 ∧ a = ch M j) := hI
   have hlt : a = j ∨ (j < M.length ∧ j < a ∧ a < M.length) := by
    rcases hI with ⟨_, e⟩ | ⟨_, e⟩ | ⟨_, e⟩
    ·exact .inl e
    ·rcases c1_cases M j with ⟨e1, _⟩ | ⟨e1, h1, _⟩ <;> omega
    ·rcases ch_cases M j with e1 | ⟨e1, e2, _⟩ <;> omega
   have ha : (k : Int) < M.length → (a : Int) < M.length := fun h => by omega
   have hexit : ¬ ((k : Int) ≤ 2 * (j : Int) + 2) ∨ ¬ ((k : Int) < M.length) → a = ch M j := fun h => by
    unfold ch
    rcases hI with ⟨e, e2⟩ | ⟨e, e2⟩ | ⟨e, e2⟩
    ·rcases c1_cases M j with ⟨e1, _⟩ | ⟨e1, h1, _⟩
     ·rcases c2_cases M j (c1 M j) with ⟨f1, _⟩ | ⟨f1, h2, _⟩ <;> omega
     ·omega
    ·rcases c2_cases M j (c1 M j) with ⟨f1, _⟩ | ⟨f1, h2, _⟩ <;> omega
    ·exact e2
   have hs : ¬ (a : Int) = j → MCalls Tryz.prog G 59 [.ref 1 0, .int .i64 (j : Int), .int .i64 (a : Int)] (.ghost [.junk, .junk, .junk, .ref 1 0, .junk, .omap 3] :: hBs M) (.tup [])
    (.ghost [.junk, .junk, .junk, .ref 1 0, .junk, .omap 3] :: hBs (sw M j a)) := fun h => swap_c M j a hm (by omega) (by omega) hml
   have nxt : (k : Int) ≤ 2 * (j : Int) + 2 → (k : Int) < M.length → (lt (gt M k) (gt M a) = true → (k + 1 = 2 * j + 1 ∧ k = j) ∨ (k + 1 = 2 * j + 2 ∧ k = c1 M j) ∨ (k + 1 = 2 * j + 3 ∧ k = ch M j)) ∧ (lt (gt M k) (gt M a) = false → (k + 1 = 2 * j + 1 ∧ a = j) ∨ (k + 1 = 2 * j + 2 ∧ a = c1 M j) ∨ (k + 1 = 2 * j + 3 ∧ a = ch M j)) := fun h1 h2 => by
    rcases hI with ⟨e, e2⟩ | ⟨e, e2⟩ | ⟨e, e2⟩
    ·subst e; subst e2
     refine ⟨fun h => .inr (.inl ⟨rfl, ?_⟩), fun h => .inr (.inl ⟨rfl, ?_⟩)⟩
     ·unfold c1; rw [if_pos ⟨by omega, h⟩]
     ·unfold c1; rw [if_neg (fun hh => by rw [h] at hh; cases hh.2)]
    ·subst e; subst e2
     refine ⟨fun h => .inr (.inr ⟨rfl, ?_⟩), fun h => .inr (.inr ⟨rfl, ?_⟩)⟩
     ·unfold ch c2; rw [if_pos ⟨by omega, h⟩]
     ·unfold ch c2; rw [if_neg (fun hh => by rw [h] at hh; cases hh.2)]
    ·omega
   clear hI
   have stop : a = ch M j → (a : Int) = j → dn L i = M := fun h1 h2 => by
    rw [← he, dn, dif_pos (by omega)]
   have goon : a = ch M j → ¬ (a : Int) = j → (Nd (sw M j a) ∧ (a < (sw M j a).length ∨ (a = 0 ∧ (sw M j a).length = 0)) ∧ (sw M j a).length ≤ 1000000 ∧ dn (sw M j a) a = dn L i) ∧ (sw M j a).length - a < M.length - j := fun h1 h2 => by
    refine ⟨⟨(nd_perm (sw_perm (by omega) (by omega))).2 hm, .inl (by rw [sw_len]; omega), by rw [sw_len]; exact hml, ?_⟩, by rw [sw_len]; omega⟩
    rw [← he]
    conv => rhs; rw [dn]
    rw [dif_neg (by omega), ← h1]
   conv => whnf
   repeat' (first | refine sq ?_ | refine bk ?_ | ((first | refine rg ttok ?_ | refine dw ttok mixed ?_ | refine cd ?_ | refine sk ?_ | refine xt ?_ | refine rt ?_); conv => whnf) | (refine And.intro (fun h => ?_) (fun h => ?_) <;> (try simp only [brsA] at h) <;> conv => whnf) | (refine Or.inl ?_; (conv => whnf); refine ⟨_, less_c _ _, ?_⟩; conv => whnf) | (refine Or.inr (Or.inl ?_); (conv => whnf); refine ⟨_, _, hs (by assumption), ?_⟩; conv => whnf) | ((first | refine wf ?_ | refine wp' ?_ | refine ai ?_ | refine And.intro rfl ?_ | refine an ?_ | fail); conv => whnf))
   ·rename_i g1 g2
    refine ⟨(k + 1, k), (nxt g1 g2).1 h, (by show 2 * j + 3 - (k + 1) < 2 * j + 3 - k; omega), ?_⟩
    conv => whnf
    repeat (first | exact fa | ((first | refine fb ?_ | (refine And.intro ?_ ?_; rotate_left)); conv => whnf))
   ·rename_i g1 g2
    refine ⟨(k + 1, a), (nxt g1 g2).2 h, (by show 2 * j + 3 - (k + 1) < 2 * j + 3 - k; omega), ?_⟩
    conv => whnf
    repeat (first | exact fa | ((first | refine fb ?_ | (refine And.intro ?_ ?_; rotate_left)); conv => whnf))
   ·rename_i g1 g2
    rw [stop (hexit (.inr g2)) h]
    exact ⟨rfl, Or.inl fun _ _ => rfl, rfl, rfl, fun _ => rfl, fun _ _ => rfl⟩
   ·rename_i g1 g2
    obtain ⟨q1, q2⟩ := goon (hexit (.inr g2)) h
    refine ⟨(sw M j a, a), q1, q2, ?_⟩
    conv => whnf
    repeat (first | exact fa | ((first | refine fb ?_ | (refine And.intro ?_ ?_; rotate_left)); conv => whnf))
   ·rename_i g1
    rw [stop (hexit (.inl g1)) h]
    exact ⟨rfl, Or.inl fun _ _ => rfl, rfl, rfl, fun _ => rfl, fun _ _ => rfl⟩
   ·rename_i g1
    obtain ⟨q1, q2⟩ := goon (hexit (.inl g1)) h
    refine ⟨(sw M j a, a), q1, q2, ?_⟩
    conv => whnf
    repeat (first | exact fa | ((first | refine fb ?_ | (refine And.intro ?_ ?_; rotate_left)); conv => whnf))
end Go.Proofs.YtnkbkfjgbejhfaaGreat
namespace Go.Proofs.YtnkbkfjgbejhfaaGreat
open Go.Proofs.YtnkbkfjgbejhfaaGreat.Am Go.HeapL
variable [Inhabited DRT]
variable {G : GInv}
abbrev gh2 : Blk := .ghost [.junk, .junk, .ref 1 0, .junk, .omap 3]
theorem up_fit (M : List It) (i n : Nat) (r : Nat → List A) (H : List KC → Bool) (V : List KC → A) (hm : Nd M) (hi : i < M.length) (hl : M.length ≤ 1000000) (hn : n = M.length) (hr : ∀ j, j < n → r j = itR M j) (hH : ∀ key, H key = atH M key) (hV : ∀ key, H key = true → V key = atV M key) :
  MCalls Tryz.prog G 35 [.ref 1 0, .int .i64 (i : Int)] [gh2, .box 81 [.own 2, .omap 3], .row 41 2 n r, .mapb false [.int .i64] H V] (.tup []) (gh2 :: hBs (up M i)) := by
 refine MCalls.fit (up_c M i hm hi hl) rfl ?_
 conv => whnf
 repeat (first | exact fa | ((first | refine fb ?_ | (refine And.intro ?_ ?_; rotate_left)); conv => whnf))
 ·exact hV
 ·exact hn
 ·exact Or.inl hr
 ·exact hH
theorem set_old (L : List It) (x : It) (hn : Nd L) (hh : hasL L x.2 = true) (hl : L.length ≤ 1000000) :
  MCalls Tryz.prog G 16 [.ref 1 0, .agg [.int .i64 x.1, .int .i64 x.2]] (gh2 :: hBs L) .junk (gh2 :: hBs (hset L x)) := by
 have hi := ix_lt hh
 have ha := ix_at hh
 have hn' := set_nd hn hi (x := x) ha
 have hlen : (L.set (ix L x.2) x).length = L.length := by simp
 have hup := up_fit (G := G) (L.set (ix L x.2) x) (ix L x.2) L.length (updRow (itR L) ((ix L x.2 : Nat) : Int).toNat [.int .i64 x.1, .int .i64 x.2]) (atH L) (atV L) hn' (by omega) (by omega) hlen.symm (fun j _ => row_set hi j) (fun key => set_has hi ha key) (fun key h => set_val hn hi ha key h)
 have hul : (up (L.set (ix L x.2) x) (ix L x.2)).length = L.length := by rw [up_len (by omega)]; exact hlen
 have hpm := up_perm (ix L x.2) (L.set (ix L x.2) x) (by omega)
 have hxu : hasL (up (L.set (ix L x.2) x) (ix L x.2)) x.2 = true := by
  rw [has_perm hpm]
  have := has_at (L := L.set (ix L x.2) x) (i := ix L x.2) (by omega)
  rw [gt_set hi, if_pos rfl] at this; exact this
 have hdn := down_c (G := G) (up (L.set (ix L x.2) x) (ix L x.2)) (ix (up (L.set (ix L x.2) x) (ix L x.2)) x.2) ((nd_perm hpm).2 hn') (.inl (ix_lt hxu)) (by omega)
 by_cases hk : (gt L (ix L x.2)).1 = x.1
 ·have e : hset L x = L := by unfold hset; rw [if_pos hh, if_pos hk]
  rw [e]
  refine MCalls.of_WA ttok Tryz.func16 rfl rfl _ rfl ?_
  conv => whnf
  repeat' (first | (exact absurd hh (by rw [show hasL L x.2 = false from h]; exact Bool.noConfusion)) | (exact absurd hk h) | refine sq ?_ | refine bk ?_ | ((first | refine rg ttok ?_ | refine dw ttok mixed ?_ | refine cd ?_ | refine sk ?_ | refine xt ?_ | refine rt ?_); conv => whnf) | (refine And.intro (fun h => ?_) (fun h => ?_) <;> (try simp only [brsA] at h) <;> conv => whnf) | ((first | refine wf ?_ | refine wp' ?_ | refine ai ?_ | refine And.intro rfl ?_ | refine an ?_ | fail); conv => whnf))
  repeat (first | exact fa | ((first | refine fb ?_ | (refine And.intro ?_ ?_; rotate_left)); conv => whnf))
 ·have e : hset L x = dn (up (L.set (ix L x.2) x) (ix L x.2)) (ix (up (L.set (ix L x.2) x) (ix L x.2)) x.2) := by unfold hset; rw [if_pos hh, if_neg hk]
  rw [e]
  refine MCalls.of_WA ttok Tryz.func16 rfl rfl _ rfl ?_
  conv => whnf
  repeat' (first | (exact absurd hh (by rw [show hasL L x.2 = false from h]; exact Bool.noConfusion)) | (exact absurd h hk) | ((exact absurd hxu (by rw [show hasL (up (L.set (ix L x.2) x) (ix L x.2)) x.2 = false from h]; exact Bool.noConfusion))) | ((refine WA_drawB (id := 12) 8 [] ttok mixed rfl (by kernel_rfl) ?_; conv => whnf)) | refine sq ?_ | refine bk ?_ | ((first | refine rg ttok ?_ | refine dw ttok mixed ?_ | refine cd ?_ | refine sk ?_ | refine xt ?_ | refine rt ?_); conv => whnf) | (refine And.intro (fun h => ?_) (fun h => ?_) <;> (try simp only [brsA] at h) <;> conv => whnf) | (refine Or.inr (Or.inl ?_); (conv => whnf); (first | refine ⟨_, _, hup, ?_⟩ | refine ⟨_, _, hdn, ?_⟩); conv => whnf) | ((first | refine wf ?_ | refine wp' ?_ | refine ai ?_ | refine And.intro rfl ?_ | refine an ?_ | fail); conv => whnf))
  repeat (first | exact fa | ((first | refine fb ?_ | (refine And.intro ?_ ?_; rotate_left)); conv => whnf))
end Go.Proofs.YtnkbkfjgbejhfaaGreat
namespace Go.Proofs.YtnkbkfjgbejhfaaGreat
open Go.Proofs.YtnkbkfjgbejhfaaGreat.Am Go.HeapL
variable [Inhabited DRT]
variable {G : GInv}
theorem rowCat_at (n : Nat) (r1 r2 : Nat → List A) : rowCat n r1 r2 ((n : Int)).toNat = r2 0 := by
 unfold rowCat
 rw [show ((n : Int)).toNat = n from rfl]
 split
 ·rename_i h
  have h : n < n := Nat.le_of_ble_eq_true h
  omega
 ·rw [Nat.sub_self]
theorem row_push (L : List It) (x : It) (r2 : Nat → List A) (j : Nat) (h : j < L.length + 1) : updRow (rowCat L.length (itR L) r2) ((L.length : Nat) : Int).toNat [.int .i64 x.1, .int .i64 x.2] j = itR (L ++ [x]) j := by
 unfold updRow
 split
 ·rename_i e
  have e : j = L.length := e
  subst e
  show _ = [A.int .i64 ((L ++ [x]).getD L.length (0, 0)).1, A.int .i64 ((L ++ [x]).getD L.length (0, 0)).2]
  rw [List.getD_eq_getElem?_getD, List.getElem?_append_right (Nat.le_refl _)]
  simp
 ·rename_i e
  have e : j ≠ L.length := e
  unfold rowCat
  have hj : Nat.blt j L.length = true := Nat.ble_eq_true_of_le (by show j + 1 ≤ L.length; omega)
  rw [hj]
  show [A.int .i64 (L.getD j (0, 0)).1, A.int .i64 (L.getD j (0, 0)).2] = [A.int .i64 ((L ++ [x]).getD j (0, 0)).1, A.int .i64 ((L ++ [x]).getD j (0, 0)).2]
  simp only [List.getD_eq_getElem?_getD, List.getElem?_append_left (show j < L.length by omega)]
theorem push_nd {L : List It} {x : It} (hn : Nd L) (hx : hasL L x.2 = false) : Nd (L ++ [x]) := by
 unfold Nd at *
 rw [List.map_append, List.nodup_append]
 refine ⟨hn, by simp, ?_⟩
 intro a ha b hb
 simp only [List.map_cons, List.map_nil, List.mem_singleton] at hb
 subst hb
 obtain ⟨⟨k, u⟩, hm, e⟩ := List.mem_map.1 ha
 intro e'
 simp only at e; subst e; subst e'
 rw [hasL_iff.2 ⟨k, hm⟩] at hx; cases hx
theorem set_new (L : List It) (x : It) (hn : Nd L) (hh : hasL L x.2 = false) (hl : L.length ≤ 100000) :
  MCalls Tryz.prog G 16 [.ref 1 0, .agg [.int .i64 x.1, .int .i64 x.2]] (gh2 :: hBs L) .junk (gh2 :: hBs (hset L x)) := by
 have hn' := push_nd (x := x) hn hh
 have hlen : (L ++ [x]).length = L.length + 1 := by simp
 have hup := up_fit (G := G) (L ++ [x]) L.length (L.length + 1) (updRow (rowCat L.length (itR L) (fun i => takeL 2 (List.drop (i * 2) [.int .i64 x.1, .int .i64 x.2]))) ((L.length : Nat) : Int).toNat [.int .i64 x.1, .int .i64 x.2])
  (putH (atH L) [.int x.2] true) (putV (atV L) [.int x.2] (.int .i64 (L.length : Int))) hn' (by omega) (by omega) hlen.symm (fun j h => row_push L x _ j h) (fun key => push_has key) (fun key h => push_val hn hh key h)
 have hul : (up (L ++ [x]) L.length).length = L.length + 1 := by rw [up_len (by omega)]; exact hlen
 have hpm := up_perm L.length (L ++ [x]) (by omega)
 have hxu : hasL (up (L ++ [x]) L.length) x.2 = true := by
  rw [has_perm hpm]; exact hasL_iff.2 ⟨x.1, by simp⟩
 have hdn := down_c (G := G) (up (L ++ [x]) L.length) (ix (up (L ++ [x]) L.length) x.2) ((nd_perm hpm).2 hn') (.inl (ix_lt hxu)) (by omega)
 have e : hset L x = dn (up (L ++ [x]) L.length) (ix (up (L ++ [x]) L.length) x.2) := by unfold hset; rw [if_neg (by rw [hh]; exact Bool.noConfusion)]
 rw [e]
 refine MCalls.of_WA ttok Tryz.func16 rfl rfl _ rfl ?_
 conv => whnf
 repeat' (first | (exact absurd (show hasL L x.2 = true from h) (by rw [hh]; exact Bool.noConfusion)) | ((exact absurd hxu (by rw [show hasL (up (L ++ [x]) L.length) x.2 = false from h]; exact Bool.noConfusion))) | ((rw [rowCat_at]; conv => whnf)) | ((refine WA_renR (id := 13) 7 [0, 1, 6, 3] rfl rfl ?_; conv => whnf)) | ((refine WA_drawB (id := 12) 8 [] ttok mixed rfl (by kernel_rfl) ?_; conv => whnf)) | refine sq ?_ | refine bk ?_ | ((first | refine rg ttok ?_ | refine dw ttok mixed ?_ | refine cd ?_ | refine sk ?_ | refine xt ?_ | refine rt ?_); conv => whnf) | (refine And.intro (fun h => ?_) (fun h => ?_) <;> (try simp only [brsA] at h) <;> conv => whnf) | (refine Or.inr (Or.inl ?_); (conv => whnf); (first | refine ⟨_, _, hup, ?_⟩ | refine ⟨_, _, hdn, ?_⟩); conv => whnf) | ((first | refine wf ?_ | refine wp' ?_ | refine ai ?_ | refine And.intro rfl ?_ | refine an ?_ | fail); conv => whnf))
 exact ⟨Or.inl fun _ _ => rfl, rfl, rfl, fun _ => rfl, fun _ _ => rfl⟩
theorem down_fit (M : List It) (i n : Nat) (r : Nat → List A) (H : List KC → Bool) (V : List KC → A) (hm : Nd M) (hi : i < M.length ∨ (i = 0 ∧ M.length = 0)) (hl : M.length ≤ 1000000) (hn : n = M.length) (hr : ∀ j, j < n → r j = itR M j) (hH : ∀ key, H key = atH M key) (hV : ∀ key, H key = true → V key = atV M key) :
  MCalls Tryz.prog G 36 [.ref 1 0, .int .i64 (i : Int)] [gh2, .box 81 [.own 2, .omap 3], .row 41 2 n r, .mapb false [.int .i64] H V] (.tup []) (gh2 :: hBs (dn M i)) := by
 refine MCalls.fit (down_c M i hm hi hl) rfl ?_
 conv => whnf
 repeat (first | exact fa | ((first | refine fb ?_ | (refine And.intro ?_ ?_; rotate_left)); conv => whnf))
 ·exact hV
 ·exact hn
 ·exact Or.inl hr
 ·exact hH
abbrev gh1 : Blk := .ghost [.junk, .ref 1 0, .junk, .omap 3]
theorem pop_c (L : List It) (hn : Nd L) (h0 : 0 < L.length) (hl : L.length ≤ 1000000) :
  MCalls Tryz.prog G 38 [.ref 1 0] (gh1 :: hBs L) (.tup [.agg [.int .i64 (gt L 0).1, .int .i64 (gt L 0).2], .bool true]) (gh1 :: hBs (hpop L)) := by
 have h1 := least_yes (G := G) L h0 hl
 have h2 : MCalls Tryz.prog G 59 [.ref 1 0, .int .i64 0, .int .i64 ((L.length : Int) - 1)] (.ghost [.junk, .junk, .junk, .ref 1 0, .junk, .omap 3] :: hBs L) (.tup []) (.ghost [.junk, .junk, .junk, .ref 1 0, .junk, .omap 3] :: hBs (sw L 0 (L.length - 1))) := by
  have := swap_c (G := G) L 0 (L.length - 1) hn h0 (by omega) hl
  rw [show ((L.length - 1 : Nat) : Int) = (L.length : Int) - 1 by omega] at this
  exact this
 have hsn : Nd (sw L 0 (L.length - 1)) := (nd_perm (sw_perm h0 (by omega))).2 hn
 have hsl := sw_len L 0 (L.length - 1)
 have hlast : (sw L 0 (L.length - 1)).getD ((sw L 0 (L.length - 1)).length - 1) (0, 0) = gt L 0 := by
  have := gt_sw (L := L) (i := 0) (k := L.length - 1) (j := L.length - 1) h0 (by omega)
  rw [if_pos rfl] at this
  rw [hsl]; exact this
 have hdl : (sw L 0 (L.length - 1)).dropLast.length = L.length - 1 := by rw [List.length_dropLast, hsl]
 have hdp := drop_perm (L := sw L 0 (L.length - 1)) (by omega)
 have hdn' : Nd (sw L 0 (L.length - 1)).dropLast := by
  have := (nd_perm hdp).2 hsn
  unfold Nd at *; rw [List.map_cons, List.nodup_cons] at this; exact this.2
 have h3 := down_fit (G := G) (sw L 0 (L.length - 1)).dropLast 0 (((sw L 0 (L.length - 1)).length : Int) - 1).toNat (itR (sw L 0 (L.length - 1))) (putH (atH (sw L 0 (L.length - 1))) [.int (gt L 0).2] false) (atV (sw L 0 (L.length - 1))) hdn' (by omega) (by omega) (by omega)
  (fun j hj => by
   have := gt_drop (L := sw L 0 (L.length - 1)) (j := j) (by omega)
   unfold gt at this
   unfold itR; rw [this]) (fun key => by
   have := del_has (L := sw L 0 (L.length - 1)) (by omega) hsn key
   rw [hlast] at this; exact this) (fun key hk => by
   have := del_val (L := sw L 0 (L.length - 1)) (by omega) hsn key
   rw [hlast] at this; exact this hk)
 have h4 : MCalls Tryz.prog G 36 [.ref 1 0, .int .i64 0] _ _ _ := h3
 have e : hpop L = dn (sw L 0 (L.length - 1)).dropLast 0 := rfl
 rw [e]
 refine MCalls.of_WA ttok Tryz.func38 rfl rfl _ rfl ?_
 conv => whnf
 repeat' (first | (refine WA_drawR (id := 5) [(11,1)] ttok mixed ?_; conv => whnf) | ((refine WA_renR (id := 8) 7 [0, 1, 6, 3, 4, 5] rfl rfl ?_; conv => whnf)) | refine sq ?_ | refine bk ?_ | ((first | refine rg ttok ?_ | refine dw ttok mixed ?_ | refine cd ?_ | refine sk ?_ | refine xt ?_ | refine rt ?_); conv => whnf) | (refine And.intro (fun h => ?_) (fun h => ?_) <;> (try simp only [brsA] at h) <;> conv => whnf) | (refine Or.inr (Or.inl ?_); (conv => whnf); (first | refine ⟨_, _, h1, ?_⟩ | refine ⟨_, _, h2, ?_⟩ | refine ⟨_, _, h4, ?_⟩); conv => whnf) | ((first | refine wf ?_ | refine wp' ?_ | refine ai ?_ | refine And.intro rfl ?_ | refine an ?_ | fail); conv => whnf))
 repeat (first | exact fa | ((first | refine fb ?_ | (refine And.intro ?_ ?_; rotate_left)); conv => whnf))
theorem new_c : MCalls Tryz.prog G 31 [] [] (.ref 0 0) [.box 81 [.own 1, .omap 2], .row 41 2 0 (itR []), atB []] := by
 refine MCalls.of_WA ttok Tryz.func31 rfl rfl _ rfl ?_
 conv => whnf
 repeat' (first | ((refine WA_nilB (code := .ret) 1 0 41 2 rfl rfl ?_; conv => whnf)) | refine sq ?_ | refine bk ?_ | ((first | refine rg ttok ?_ | refine dw ttok mixed ?_ | refine cd ?_ | refine sk ?_ | refine xt ?_ | refine rt ?_); conv => whnf) | (refine And.intro (fun h => ?_) (fun h => ?_) <;> (try simp only [brsA] at h) <;> conv => whnf) | ((first | refine wf ?_ | refine wp' ?_ | refine ai ?_ | refine And.intro rfl ?_ | refine an ?_ | fail); conv => whnf))
 exact ⟨Or.inl fun i hi => absurd hi (Nat.not_lt_zero _), rfl, rfl, fun key => by unfold atH; split <;> rfl, fun key h => by cases h⟩
end Go.Proofs.YtnkbkfjgbejhfaaGreat
namespace Go.HeapL
/-! ### Walks by entries -/
inductive Wo (o : OE) : Int → Int → Int → Prop
 | nil (a : Int) : Wo o a a 0
 | cons {a x b c : Int} {s : Int × Int} (h : o a x = some s) (k : Wo o x b c) : Wo o a b (s.1 + c)
theorem Wo.to {o : OE} {a b c c' : Int} (h : Wo o a b c) (e : c = c') : Wo o a b c' := e ▸ h
theorem Wo.trans {o : OE} {a b c x d : Int} (h : Wo o a b x) (k : Wo o b c d) : Wo o a c (x + d) := by
 induction h with
 | nil a => exact k.to (by omega)
 | cons h _ ih => exact (Wo.cons h (ih k)).to (by omega)
theorem Wo.one {o : OE} {a b : Int} {s : Int × Int} (h : o a b = some s) : Wo o a b s.1 := (Wo.cons h (Wo.nil b)).to (by omega)
/-- What entries there may be. -/
structure OI (n : Nat) (L : Int → Prop) (B : Int) (o : OE) : Prop where
 dom : ∀ {a b s}, o a b = some s → (0 ≤ a ∧ a < n ∧ L a) ∧ (0 ≤ b ∧ b < n ∧ L b) ∧ a ≠ b
 wt : ∀ {a b s}, o a b = some s → 0 ≤ s.1 ∧ s.1 ≤ B
theorem Wo.nn {n : Nat} {L : Int → Prop} {B : Int} {o : OE} (hO : OI n L B o) {a b c : Int} (h : Wo o a b c) : 0 ≤ c := by
 induction h with
 | nil a => omega
 | cons h _ ih => have := hO.wt h; omega
theorem itM_mem {n : Nat} {m : Mp} {w u : Int} : (w, u) ∈ itM n m ↔ 0 ≤ u ∧ u < n ∧ ∃ s, m u = some s ∧ s.1 = w := by
 unfold itM
 rw [List.mem_filterMap]
 constructor
 ·rintro ⟨k, hk, e⟩
  rw [List.mem_range] at hk
  cases hm : m (k : Int) with
  | none => rw [hm] at e; cases e
  | some s =>
   rw [hm] at e
   simp only [Option.map_some, Option.some.injEq, Prod.mk.injEq] at e
   obtain ⟨e1, e2⟩ := e
   subst e2
   exact ⟨by omega, by omega, s, hm, e1⟩
 ·rintro ⟨h0, h1, s, hs, e⟩
  refine ⟨u.toNat, List.mem_range.2 (by omega), ?_⟩
  rw [show ((u.toNat : Nat) : Int) = u by omega, hs]
  simp [e]
theorem itM_len (n : Nat) (m : Mp) : (itM n m).length ≤ n := by
 unfold itM
 have := List.length_filterMap_le (fun (u : Nat) => (m (u : Int)).map fun s => (s.1, (u : Int))) (List.range n)
 rw [List.length_range] at this
 exact this
/-! ### Short searches find walks -/
structure WI (n : Nat) (P : Int → Int → Prop) (H : Int) (S : WS) : Prop where
 hp : Hp S.L
 nd : Nd S.L
 el : ∀ {k v}, (k, v) ∈ S.L → P v k ∧ 0 ≤ v ∧ v < n
 ch : ∀ {v k}, S.c v = some k → 0 ≤ k.2 ∧ k.2 ≤ H ∧ P v k.1
theorem ws0_WI (n : Nat) (P : Int → Int → Prop) (H : Int) : WI n P H ws0 :=
 ⟨fun j _ h => absurd h (Nat.not_lt_zero _), List.nodup_nil, fun h => absurd h (List.not_mem_nil), fun h => by cases h⟩
theorem wkp_false {past most : Int} {S : WS} {v cost : Int} (h : wkp past most S v cost = false) : v ≠ past ∧ cost ≤ most := by
 unfold wkp at h
 simp only [Bool.or_eq_false_iff, decide_eq_false_iff_not] at h
 exact ⟨h.1, by omega⟩
theorem wrch_WI {n : Nat} {P : Int → Int → Prop} {H past most : Int} {S : WS} (h : WI n P H S) {v cost hops : Int} (hP : v ≠ past → cost ≤ most → P v cost) (hv : 0 ≤ v ∧ v < n) (hh : 0 ≤ hops ∧ hops ≤ H) :
  WI n P H (wrch past most S v cost hops) := by
 unfold wrch
 split
 ·exact h
 ·rename_i hk
  have hk := wkp_false hk
  have hP := hP hk.1 hk.2
  obtain ⟨h1, h2, h3⟩ := hset_ok h.hp h.nd (cost, v)
  refine ⟨h1, h2, fun {k u} hm => ?_, fun {u k} hc => ?_⟩
  ·rcases (h3 k u).1 hm with ⟨e1, e2⟩ | ⟨_, hm⟩
   ·have e1 : u = v := e1
    have e2 : k = cost := e2
    subst e1; subst e2; exact ⟨hP, hv⟩
   ·exact h.el hm
  ·show _
   unfold wupd at hc
   simp only at hc
   split at hc
   ·rename_i e; subst e; cases hc; exact ⟨hh.1, hh.2, hP⟩
   ·exact h.ch hc
theorem wst1_WI {n : Nat} {P : Int → Int → Prop} {H past most key hops : Int} {S : WS} (h : WI n P H S) {a : It} (hP : a.2 ≠ past → a.1 ≤ most - key → P a.2 (key + a.1)) (hv : 0 ≤ a.2 ∧ a.2 < n) (hh : 0 ≤ hops ∧ hops < H) :
  WI n P H (wst1 past most key hops S a) := by
 unfold wst1
 split
 ·rename_i hd
  exact wrch_WI h (fun h1 _ => hP h1 (of_decide_eq_true hd)) hv (by omega)
 ·exact h
theorem wrlx_WI {n : Nat} {P : Int → Int → Prop} {H past most key hops : Int} (hh : 0 ≤ hops ∧ hops < H) : ∀ (l : List It) {S : WS}, WI n P H S → (∀ a ∈ l, (a.2 ≠ past → a.1 ≤ most - key → P a.2 (key + a.1)) ∧ 0 ≤ a.2 ∧ a.2 < n) →
  WI n P H (wrlx past most key hops l S)
 | [], S, h, _ => h
 | a :: l, S, h, hl => wrlx_WI hh l (wst1_WI h (hl a (by simp)).1 (hl a (by simp)).2 hh) fun x hx => hl x (by simp [hx])
theorem wpop_WI {n : Nat} {P : Int → Int → Prop} {H : Int} {S : WS} (h : WI n P H S) (h0 : 0 < S.L.length) : WI n P H (wpop S) := by
 obtain ⟨h1, h2, h3⟩ := hpop_ok h0 h.hp h.nd
 exact ⟨h1, h2, fun {k v} hm => h.el ((h3 k v).1 hm).2, h.ch⟩
/-- What a search asks of its arcs. -/
structure LkI (n : Nat) (P : Int → Int → Prop) (past most : Int) (lk : Int → List It) : Prop where
 go : ∀ {u key a}, P u key → 0 ≤ u → u < n → a ∈ lk u → (a.2 ≠ past → a.1 ≤ most - key → P a.2 (key + a.1)) ∧ 0 ≤ a.2 ∧ a.2 < n
theorem wstep_WI {n : Nat} {P : Int → Int → Prop} {H past most : Int} {lk : Int → List It} (hl : LkI n P past most lk) (hH : 0 < H) {S : WS} (h : WI n P H S) (h0 : 0 < S.L.length) : WI n P H (wstep past most H lk S) := by
 have ht := h.el (mem_gt h0)
 unfold wstep
 split
 ·exact wpop_WI h h0
 ·rename_i hd
  have hd : ¬ whp S (gt S.L 0).2 = H := of_decide_eq_false hd
  refine wrlx_WI ?_ _ (wpop_WI h h0) fun a ha => hl.go ht.1 ht.2.1 ht.2.2 ha
  unfold whp at hd ⊢
  split
  ·rename_i k hk
   rw [hk] at hd
   have := h.ch hk
   simp only at hd
   omega
  ·omega
theorem wrun_ok {n : Nat} {P : Int → Int → Prop} {H past most : Int} {lk : Int → List It} (hl : LkI n P past most lk) (hH : 0 < H) : ∀ (k : Nat) {S : WS} {l : List It}, WI n P H S → (∀ x ∈ l, P x.2 x.1) → ∀ x ∈ wrun past most H lk k S l, P x.2 x.1
 | 0, S, l, _, hi => hi
 | k + 1, S, l, h, hi => by
  unfold wrun
  split
  ·rename_i hd
   have h0 : 0 < S.L.length := of_decide_eq_true hd
   refine wrun_ok hl hH k (wstep_WI hl hH h h0) fun x hx => ?_
   rcases List.mem_append.1 hx with hx | hx
   ·exact hi x hx
   ·rw [List.mem_singleton] at hx; subst hx; exact (h.el (mem_gt h0)).1
  ·exact hi
/-- A walk past a vertex. -/
def WP (o : OE) (fr past most v k : Int) : Prop := v ≠ past ∧ 0 ≤ k ∧ k ≤ most ∧ Wo (delV o past) fr v k
theorem delV_ne {o : OE} {v a b : Int} (ha : a ≠ v) (hb : b ≠ v) : delV o v a b = o a b := by
 unfold delV; rw [if_neg (by rintro (h | h) <;> contradiction)]
theorem delV_some {o : OE} {v a b : Int} {s : Int × Int} (h : delV o v a b = some s) : a ≠ v ∧ b ≠ v ∧ o a b = some s := by
 unfold delV at h
 split at h
 ·cases h
 ·rename_i hn
  exact ⟨fun e => hn (.inl e), fun e => hn (.inr e), h⟩
theorem lkI_it {n : Nat} {L : Int → Prop} {B : Int} {o : OE} (hO : OI n L B o) (fr past most : Int) : LkI n (WP o fr past most) past most (fun u => itM n (o u)) := by
 refine ⟨fun {u key a} hP _ _ ha => ?_⟩
 obtain ⟨w, x⟩ := a
 obtain ⟨h0, h1, s, hs, e⟩ := itM_mem.1 ha
 refine ⟨fun hx hk => ?_, h0, h1⟩
 simp only at hx hk ⊢
 have hw := hO.wt hs
 refine ⟨hx, by have := hP.2.1; omega, by omega, hP.2.2.2.trans ((Wo.one (s := s) ?_).to e)⟩
 rw [delV_ne hP.1 hx]; exact hs
theorem wit_P {n : Nat} {L : Int → Prop} {B : Int} {o : OE} (hO : OI n L B o) {fr past most : Int} (hf : 0 ≤ fr ∧ fr < n) (hn : n ≤ 50) : ∀ x ∈ witM n o fr past most, WP o fr past most x.2 x.1 := by
 unfold witM
 split
 ·intro x hx; cases hx
 ·rename_i hd
  simp only [Bool.or_eq_false_iff, decide_eq_false_iff_not] at hd
  have hH : 0 < limM n := by unfold limM; split <;> omega
  refine wrun_ok (lkI_it hO fr past most) hH _ (wrch_WI (ws0_WI _ _ _) (fun h1 h2 => ⟨hd.2, by omega, by omega, .nil _⟩) hf (by omega)) fun x hx => by cases hx
theorem oth_P {n : Nat} {L : Int → Prop} {B : Int} {o : OE} (hO : OI n L B o) {v a b c : Int} (hf : 0 ≤ a ∧ a < n) (hn : n ≤ 50) (h : othM n o v a b c = true) : ∃ k, k ≤ c ∧ Wo (delV o v) a b k := by
 unfold othM at h
 rw [List.any_eq_true] at h
 obtain ⟨x, hx, e⟩ := h
 have := wit_P hO hf hn x hx
 have e : x.2 = b := by simpa using e
 rw [e] at this
 exact ⟨x.1, this.2.2.1, this.2.2.2⟩
/-! ### A vertex goes -/
theorem bdI_ok {n : Nat} {L : Int → Prop} {B : Int} {o : OE} (hO : OI n L B o) (hB : B ≤ mxC) (hn : n ≤ 50) (v : Int) : bdI (itM n (o v)) = true ∧ bdI (itM n (inM o v)) = true := by
 unfold bdI
 simp only [Bool.and_eq_true, decide_eq_true_eq, List.all_eq_true]
 refine ⟨⟨by have := itM_len n (o v); omega, fun x hx => ?_⟩, ⟨by have := itM_len n (inM o v); omega, fun x hx => ?_⟩⟩
 ·obtain ⟨_, _, s, hs, e⟩ := itM_mem.1 hx
  have := hO.wt hs; omega
 ·obtain ⟨_, _, s, hs, e⟩ := itM_mem.1 hx
  have := hO.wt (show o x.2 v = some s from hs); omega
theorem need1_mem {v : Int} {oth : Int → Int → Int → Bool} {a b : It} {x : Lk} : x ∈ need1 v oth a b ↔ (a.2 ≠ b.2 ∧ oth a.2 b.2 (a.1 + b.1) = false) ∧ x = ⟨a.2, b.2, a.1 + b.1, v⟩ := by
 unfold need1
 split
 ·rename_i h
  simp only [Bool.or_eq_true, decide_eq_true_eq] at h
  constructor
  ·intro hx; cases hx
  ·rintro ⟨⟨h1, h2⟩, _⟩
   rcases h with h | h
   ·exact absurd h h1
   ·rw [h2] at h; cases h
 ·rename_i h
  simp only [Bool.or_eq_false_iff, decide_eq_false_iff_not] at h
  rw [List.mem_singleton]
  exact ⟨fun e => ⟨h, e⟩, fun e => e.2⟩
theorem need_mem {n : Nat} {L : Int → Prop} {B : Int} {o : OE} (hO : OI n L B o) (hB : B ≤ mxC) (hn : n ≤ 50) {v : Int} {x : Lk} :
  x ∈ needM n o v ↔ ∃ s t, o x.f v = some s ∧ o v x.t = some t ∧ x.f ≠ x.t ∧ othM n o v x.f x.t (s.1 + t.1) = false ∧ x.w = s.1 + t.1 ∧ x.m = v := by
 unfold needM needL
 obtain ⟨h1, h2⟩ := bdI_ok hO hB hn v
 rw [h1, h2]
 simp only [Bool.and_self, List.mem_flatMap, need1_mem]
 constructor
 ·rintro ⟨⟨w1, a⟩, ha, ⟨w2, b⟩, hb, ⟨h1, h2⟩, e⟩
  obtain ⟨_, _, s, hs, e1⟩ := itM_mem.1 ha
  obtain ⟨_, _, t, ht, e2⟩ := itM_mem.1 hb
  subst e1; subst e2; subst e
  exact ⟨s, t, hs, ht, h1, h2, rfl, rfl⟩
 ·rintro ⟨s, t, hs, ht, h1, h2, h3, h4⟩
  have d1 := hO.dom hs
  have d2 := hO.dom ht
  refine ⟨(s.1, x.f), itM_mem.2 ⟨d1.1.1, d1.1.2.1, s, hs, rfl⟩, (t.1, x.t), itM_mem.2 ⟨d2.2.1.1, d2.2.1.2.1, t, ht, rfl⟩, ⟨h1, h2⟩, ?_⟩
  cases x
  simp only at h3 h4
  rw [h3, h4]
theorem putM_cases (o : OE) (x : Lk) : (∃ s, o x.f x.t = some s ∧ s.1 ≤ x.w ∧ putM o x = o) ∨ ((∀ s, o x.f x.t = some s → x.w < s.1) ∧ putM o x = fun a b => if a = x.f ∧ b = x.t then some (x.w, x.m) else o a b) := by
 unfold putM
 cases h : o x.f x.t with
 | none => exact .inr ⟨fun s e => (by cases e), rfl⟩
 | some s =>
  by_cases hd : s.1 ≤ x.w
  ·exact .inl ⟨s, rfl, hd, by simp only [decide_eq_true hd]⟩
  ·exact .inr ⟨fun s' e => (by cases e; omega), by simp only [decide_eq_false hd]⟩
theorem put_some {o : OE} {x : Lk} {a b : Int} {s : Int × Int} (h : putM o x a b = some s) : o a b = some s ∨ (a = x.f ∧ b = x.t ∧ s = (x.w, x.m)) := by
 rcases putM_cases o x with ⟨_, _, _, e⟩ | ⟨_, e⟩
 ·rw [e] at h; exact .inl h
 ·rw [e] at h
  simp only at h
  split at h
  ·rename_i e; cases h; exact .inr ⟨e.1, e.2, rfl⟩
  ·exact .inl h
theorem put_le {o : OE} {x : Lk} {a b : Int} {s : Int × Int} (h : o a b = some s) : ∃ s', putM o x a b = some s' ∧ s'.1 ≤ s.1 := by
 rcases putM_cases o x with ⟨_, _, _, e⟩ | ⟨hd, e⟩
 ·rw [e]; exact ⟨s, h, Int.le_refl _⟩
 ·rw [e]
  simp only
  split
  ·rename_i e
   obtain ⟨rfl, rfl⟩ := e
   have := hd s h
   exact ⟨_, rfl, by show x.w ≤ s.1; omega⟩
  ·exact ⟨s, h, Int.le_refl _⟩
theorem put_new (o : OE) (x : Lk) : ∃ s', putM o x x.f x.t = some s' ∧ s'.1 ≤ x.w := by
 rcases putM_cases o x with ⟨s, h, hd, e⟩ | ⟨hd, e⟩
 ·rw [e]; exact ⟨s, h, hd⟩
 ·rw [e]; exact ⟨(x.w, x.m), by simp, Int.le_refl _⟩
theorem puts_some : ∀ (l : List Lk) {o : OE} {a b : Int} {s : Int × Int}, l.foldl putM o a b = some s → o a b = some s ∨ ∃ x ∈ l, a = x.f ∧ b = x.t ∧ s = (x.w, x.m)
 | [], o, a, b, s, h => .inl h
 | x :: l, o, a, b, s, h => by
  rcases puts_some l (o := putM o x) h with h | ⟨y, hy, h⟩
  ·rcases put_some h with h | h
   ·exact .inl h
   ·exact .inr ⟨x, by simp, h⟩
  ·exact .inr ⟨y, by simp [hy], h⟩
theorem puts_le : ∀ (l : List Lk) {o : OE} {a b : Int} {s : Int × Int}, o a b = some s → ∃ s', l.foldl putM o a b = some s' ∧ s'.1 ≤ s.1
 | [], o, a, b, s, h => ⟨s, h, Int.le_refl _⟩
 | x :: l, o, a, b, s, h => by
  obtain ⟨s1, h1, l1⟩ := put_le (x := x) h
  obtain ⟨s2, h2, l2⟩ := puts_le l h1
  exact ⟨s2, h2, by omega⟩
theorem puts_new : ∀ (l : List Lk) {o : OE} {x : Lk}, x ∈ l → ∃ s', l.foldl putM o x.f x.t = some s' ∧ s'.1 ≤ x.w
 | y :: l, o, x, h => by
  rcases List.mem_cons.1 h with rfl | h
  ·obtain ⟨s1, h1, l1⟩ := put_new o x
   obtain ⟨s2, h2, l2⟩ := puts_le l h1
   exact ⟨s2, h2, by omega⟩
  ·exact puts_new l h
def goO (n : Nat) (o : OE) (v : Int) : OE := (needM n o v).foldl putM (delV o v)
section
variable {n : Nat} {L : Int → Prop} {B : Int} {o : OE} {v : Int}
theorem goO_some (hO : OI n L B o) (hB : B ≤ mxC) (hn : n ≤ 50) {a b : Int} {s : Int × Int} (h : goO n o v a b = some s) :
  a ≠ v ∧ b ≠ v ∧ (o a b = some s ∨ ∃ t u, o a v = some t ∧ o v b = some u ∧ a ≠ b ∧ s = (t.1 + u.1, v)) := by
 unfold goO at h
 rcases puts_some _ h with h | ⟨x, hx, rfl, rfl, rfl⟩
 ·have := delV_some h; exact ⟨this.1, this.2.1, .inl this.2.2⟩
 ·obtain ⟨t, u, h1, h2, h3, _, h4, h5⟩ := (need_mem hO hB hn).1 hx
  have d1 := hO.dom h1
  have d2 := hO.dom h2
  exact ⟨d1.2.2, d2.2.2.symm, .inr ⟨t, u, h1, h2, h3, by rw [h4, h5]⟩⟩
theorem goO_keep {a b : Int} {s : Int × Int} (ha : a ≠ v) (hb : b ≠ v) (h : o a b = some s) : ∃ s', goO n o v a b = some s' ∧ s'.1 ≤ s.1 :=
 puts_le _ (by rw [delV_ne ha hb]; exact h)
theorem goO_OI (hO : OI n L B o) (hB : B ≤ mxC) (hn : n ≤ 50) {L' : Int → Prop} (hL : ∀ x, L x → x ≠ v → L' x) : OI n L' (B + B) (goO n o v) := by
 refine ⟨fun {a b s} h => ?_, fun {a b s} h => ?_⟩
 ·obtain ⟨h1, h2, h | ⟨t, u, h3, h4, h5, rfl⟩⟩ := goO_some hO hB hn h
  ·obtain ⟨d1, d2, d3⟩ := hO.dom h
   exact ⟨⟨d1.1, d1.2.1, hL _ d1.2.2 h1⟩, ⟨d2.1, d2.2.1, hL _ d2.2.2 h2⟩, d3⟩
  ·obtain ⟨d1, _, _⟩ := hO.dom h3
   obtain ⟨_, d2, _⟩ := hO.dom h4
   exact ⟨⟨d1.1, d1.2.1, hL _ d1.2.2 h1⟩, ⟨d2.1, d2.2.1, hL _ d2.2.2 h2⟩, h5⟩
 ·obtain ⟨h1, h2, h | ⟨t, u, h3, h4, h5, rfl⟩⟩ := goO_some hO hB hn h
  ·have := hO.wt h; omega
  ·have := hO.wt h3; have := hO.wt h4
   show 0 ≤ t.1 + u.1 ∧ t.1 + u.1 ≤ B + B; omega
theorem Wo.up {o' : OE} (hk : ∀ a b s, o a b = some s → ∃ c, c ≤ s.1 ∧ Wo o' a b c) {a b c : Int} (h : Wo o a b c) : ∃ c', c' ≤ c ∧ Wo o' a b c' := by
 induction h with
 | nil a => exact ⟨0, Int.le_refl _, .nil a⟩
 | cons h _ ih =>
  obtain ⟨c1, l1, k1⟩ := hk _ _ _ h
  obtain ⟨c2, l2, k2⟩ := ih
  exact ⟨c1 + c2, by omega, k1.trans k2⟩
theorem del_go {a b c : Int} (h : Wo (delV o v) a b c) : ∃ c', c' ≤ c ∧ Wo (goO n o v) a b c' :=
 h.up fun a b s hs => by
  obtain ⟨h1, h2, h3⟩ := delV_some hs
  obtain ⟨s', e, l⟩ := goO_keep (n := n) h1 h2 h3
  exact ⟨s'.1, l, .one e⟩
/-- Walks behind a vertex's going are walks ahead of it. -/
theorem go_back (hO : OI n L B o) (hB : B ≤ mxC) (hn : n ≤ 50) {a b c : Int} (h : Wo (goO n o v) a b c) : Wo o a b c := by
 induction h with
 | nil a => exact .nil a
 | cons h _ ih =>
  obtain ⟨_, _, h | ⟨t, u, h3, h4, h5, rfl⟩⟩ := goO_some hO hB hn h
  ·exact .cons h ih
  ·exact ((Wo.one h3).trans ((Wo.one h4).trans ih)).to (by show t.1 + (u.1 + _) = t.1 + u.1 + _; omega)
/-- A walk over the vertex has a shortcut, or another walk. -/
theorem over (hO : OI n L B o) (hB : B ≤ mxC) (hn : n ≤ 50) {a b : Int} {s t : Int × Int} (h1 : o a v = some s) (h2 : o v b = some t) : ∃ c, c ≤ s.1 + t.1 ∧ Wo (goO n o v) a b c := by
 have d1 := hO.dom h1
 have w1 := hO.wt h1
 have w2 := hO.wt h2
 by_cases e : a = b
 ·subst e; exact ⟨0, by omega, .nil a⟩
 ·cases ho : othM n o v a b (s.1 + t.1) with
  | true =>
   obtain ⟨k, l, hk⟩ := oth_P hO ⟨d1.1.1, d1.1.2.1⟩ hn ho
   obtain ⟨c, l', h⟩ := del_go (n := n) hk
   exact ⟨c, by omega, h⟩
  | false =>
   have : (⟨a, b, s.1 + t.1, v⟩ : Lk) ∈ needM n o v := (need_mem hO hB hn).2 ⟨s, t, h1, h2, e, ho, rfl, rfl⟩
   obtain ⟨s', e', l⟩ := puts_new (needM n o v) (o := delV o v) this
   exact ⟨s'.1, l, .one e'⟩
/-- Walks ahead of a vertex's going: what is left of them. -/
theorem go_walk (hO : OI n L B o) (hB : B ≤ mxC) (hn : n ≤ 50) {a b c : Int} (h : Wo o a b c) :
  (a ≠ v → b ≠ v → ∃ c', c' ≤ c ∧ Wo (goO n o v) a b c') ∧
  (a = v → b ≠ v → ∃ y s c', o v y = some s ∧ Wo (goO n o v) y b c' ∧ s.1 + c' ≤ c) ∧
  (a ≠ v → b = v → ∃ y s c', o y v = some s ∧ Wo (goO n o v) a y c' ∧ c' + s.1 ≤ c) := by
 induction h with
 | nil a => exact ⟨fun _ _ => ⟨0, Int.le_refl _, .nil a⟩, fun h1 h2 => absurd h1 h2, fun h1 h2 => absurd h2 h1⟩
 | @cons a x b c s h k ih =>
  have d := hO.dom h
  have hw := hO.wt h
  have hc := k.nn hO
  obtain ⟨i1, i2, i3⟩ := ih
  refine ⟨fun ha hb => ?_, fun ha hb => ?_, fun ha hb => ?_⟩
  ·by_cases hx : x = v
   ·obtain ⟨y, t, c', e1, e2, e3⟩ := i2 hx hb
    subst hx
    obtain ⟨c1, l1, k1⟩ := over hO hB hn h e1
    exact ⟨c1 + c', by omega, k1.trans e2⟩
   ·obtain ⟨c', l, k'⟩ := i1 hx hb
    obtain ⟨s', e', l'⟩ := goO_keep (n := n) ha hx h
    exact ⟨s'.1 + c', by omega, .cons e' k'⟩
  ·subst ha
   obtain ⟨c', l, k'⟩ := i1 (fun e => d.2.2 e.symm) hb
   exact ⟨x, s, c', h, k', by omega⟩
  ·by_cases hx : x = v
   ·subst hx; exact ⟨a, s, 0, h, .nil a, by omega⟩
   ·obtain ⟨y, t, c', e1, e2, e3⟩ := i3 hx hb
    obtain ⟨s', e', l'⟩ := goO_keep (n := n) ha hx h
    exact ⟨y, t, s'.1 + c', e1, .cons e' e2, by omega⟩
end
end Go.HeapL
namespace Go.Proofs.YtnkbkfjgbejhfaaGreat
open Go.Proofs.YtnkbkfjgbejhfaaGreat.Am
variable [Inhabited DRT]
variable {G : GInv}
theorem refRanks_c (l : List Int) (hl : l.length ≤ 1000000) : ACalls Tryz.prog G 43 [intsA l] (.sb (decide (RanksP l))) := by
 refine ACalls.of_WA ttok Tryz.func43 rfl rfl _ rfl ?_
 conv => whnf
 repeat' (first | refine sq ?_ | refine bk ?_ | ((first | refine rg ttok ?_ | refine dw ttok mixed ?_ | refine cd ?_ | refine sk ?_ | refine xt ?_ | refine rt ?_); conv => whnf) | (refine And.intro (fun h => ?_) (fun h => ?_) <;> (try simp only [brsA] at h) <;> conv => whnf) | ((first | refine wf ?_ | refine wp' ?_ | refine ai ?_ | refine And.intro rfl ?_ | refine an ?_ | fail); conv => whnf))
 refine WA_loopI (fun i : Nat => i ≤ l.length ∧ ∀ k, k < i → (0 ≤ l.getD k 0 ∧ l.getD k 0 < l.length) ∧ ∀ j, j < k → l.getD j 0 ≠ l.getD k 0) (fun i => [(3, .int .i64 (i : Int))]) (fun i => []) (fun i => l.length - i) 0 ⟨by omega, fun k hk => by omega⟩ ?_ ?_
 ·conv => whnf
  repeat (first | exact fa | ((first | refine fb ?_ | (refine And.intro ?_ ?_; rotate_left)); conv => whnf))
 ·rintro i ⟨hi, hinv⟩
  conv => whnf
  repeat' (first | refine sq ?_ | refine bk ?_ | ((first | refine rg ttok ?_ | refine dw ttok mixed ?_ | refine cd ?_ | refine sk ?_ | refine xt ?_ | refine rt ?_); conv => whnf) | (refine And.intro (fun h => ?_) (fun h => ?_) <;> (try simp only [brsA] at h) <;> conv => whnf) | ((first | refine wf ?_ | refine wp' ?_ | refine ai ?_ | refine And.intro rfl ?_ | refine an ?_ | fail); conv => whnf))
  all_goals (try simp only [brsD] at *)
  ·exact (decide_eq_false fun hR => by have := (hR i (by omega)).1; omega).symm
  ·rename_i g1 g2
   refine WA_loopI (fun k : Nat => k ≤ i ∧ ∀ j, j < k → l.getD j 0 ≠ l.getD i 0) (fun k => [(4, .int .i64 (k : Int))]) (fun i => []) (fun k => i - k) 0 ⟨by omega, fun k hk => by omega⟩ ?_ ?_
   ·conv => whnf
    repeat (first | exact fa | ((first | refine fb ?_ | (refine And.intro ?_ ?_; rotate_left)); conv => whnf))
   ·rintro k ⟨hk, hkinv⟩
    conv => whnf
    repeat' (first | refine sq ?_ | refine bk ?_ | ((first | refine rg ttok ?_ | refine dw ttok mixed ?_ | refine cd ?_ | refine sk ?_ | refine xt ?_ | refine rt ?_); conv => whnf) | (refine And.intro (fun h => ?_) (fun h => ?_) <;> (try simp only [brsA] at h) <;> conv => whnf) | ((first | refine wf ?_ | refine wp' ?_ | refine ai ?_ | refine And.intro rfl ?_ | refine an ?_ | fail); conv => whnf))
    all_goals (try simp only [brsD] at *)
    ·exact (decide_eq_false fun hR => (hR i (by omega)).2 k (by omega) h).symm
    ·refine ⟨k + 1, ⟨by omega, fun j hj => ?_⟩, (by show i - (k + 1) < i - k; omega), ?_⟩
     ·rcases Nat.lt_or_ge j k with hk' | hk'
      ·exact hkinv j hk'
      ·have : j = k := by omega
       subst this; exact h
     ·conv => whnf
      repeat (first | exact fa | ((first | refine fb ?_ | (refine And.intro ?_ ?_; rotate_left)); conv => whnf))
    ·refine ⟨i + 1, ⟨by omega, fun j hj => ?_⟩, (by show l.length - (i + 1) < l.length - i; omega), ?_⟩
     ·rcases Nat.lt_or_ge j i with hk' | hk'
      ·exact hinv j hk'
      ·have : j = i := by omega
       subst this
       exact ⟨by omega, fun j' hj' => hkinv j' (by omega)⟩
     ·conv => whnf
      repeat (first | exact fa | ((first | refine fb ?_ | (refine And.intro ?_ ?_; rotate_left)); conv => whnf))
  ·exact (decide_eq_false fun hR => by have := (hR i (by omega)).1; omega).symm
  ·exact (decide_eq_true fun k hk => hinv k (by omega)).symm
end Go.Proofs.YtnkbkfjgbejhfaaGreat
namespace Go.Proofs.YtnkbkfjgbejhfaaGreat
open Go.Proofs.YtnkbkfjgbejhfaaGreat.Am
variable [Inhabited DRT]
variable {G : GInv}
/-- What the reference asks of a link. -/
def RefJ (rk : List Int) (ls : List Lk) (x : Lk) : Prop := 0 ≤ posL ls x.f x.m ∧ 0 ≤ posL ls x.m x.t ∧ rk.getD x.m.toNat 0 < rk.getD x.f.toNat 0 ∧ rk.getD x.m.toNat 0 < rk.getD x.t.toNat 0 ∧
  (ls.getD (posL ls x.f x.m).toNat default).w + (ls.getD (posL ls x.m x.t).toNat default).w = x.w
theorem RefJ_iff {rk : List Int} {ls : List Lk} (hS : SortedP rk.length ls) (x : Lk) : RefJ rk ls x ↔ JoinP rk ls x := by
 unfold RefJ JoinP
 constructor
 ·rintro ⟨h1, h2, h3, h4, h5⟩
  refine ⟨?_, h3, h4, h1, h2, h5⟩
  rcases posL_cases ls x.f x.m with ⟨p1, p2⟩ | ⟨j, p1, p2, p3, p4⟩
  ·omega
  ·have := (hS j p2).1.2.1
   rw [p4] at this; exact this
 ·rintro ⟨h0, h3, h4, h1, h2, h5⟩
  exact ⟨h1, h2, h3, h4, h5⟩
theorem posL_in {n : Nat} {ls : List Lk} (hS : SortedP n ls) (a b : Int) : 0 ≤ posL ls a b → (posL ls a b < ls.length ∧ 0 ≤ b ∧ b < n ∧ 0 ≤ (ls.getD (posL ls a b).toNat default).w ∧ (ls.getD (posL ls a b).toNat default).w ≤ 1152921504606846976) := by
 intro h
 rcases posL_cases ls a b with ⟨p1, p2⟩ | ⟨j, p1, p2, p3, p4⟩
 ·omega
 ·have h2 := (hS j p2).1
  rw [p1]
  refine ⟨by omega, ?_, ?_, h2.2.2.2.1, h2.2.2.2.2⟩
  ·have := h2.2.1.1; omega
  ·have := h2.2.1.2; omega
theorem refLink_p (ls : List Lk) (a b : Int) (hl : ls.length ≤ 1000000) : ACalls Tryz.prog G 44 [lksA ls, .int .i64 a, .int .i64 b] (.int .i64 (posL ls a b)) := refLink_c ls a b hl
theorem refMay_c (rk : List Int) (ls : List Lk) (hl : ls.length ≤ 1000000) (hr : rk.length ≤ 1000000) : ACalls Tryz.prog G 21 [.agg [intsA rk, lksA ls]] (.sb (decide (MayP rk ls))) := by
 refine ACalls.of_WA ttok Tryz.func21 rfl rfl _ rfl ?_
 conv => whnf
 repeat' (first | refine sq ?_ | refine bk ?_ | ((first | refine rg ttok ?_ | refine dw ttok mixed ?_ | refine cd ?_ | refine sk ?_ | refine xt ?_ | refine rt ?_); conv => whnf) | (refine And.intro (fun h => ?_) (fun h => ?_) <;> (try simp only [brsA] at h) <;> conv => whnf) | (refine Or.inl ?_; (conv => whnf); refine ⟨_, refRanks_c _ hr, ?_⟩; conv => whnf) | ((first | refine wf ?_ | refine wp' ?_ | refine ai ?_ | refine And.intro rfl ?_ | refine an ?_ | fail); conv => whnf))
 ·exact (decide_eq_false fun hM => h hM.2.2.1).symm
 ·rename_i g1 g2
  have hRk := h
  refine WA_loopI (fun i : Nat => i ≤ ls.length ∧ ∀ k, k < i → okAt rk.length ls k) (fun i => [(3, .int .i64 (i : Int))]) (fun _ => [.box 32 [intsA rk, lksA ls]]) (fun i => ls.length - i) 0 ⟨by omega, fun k hk => by omega⟩ ?_ ?_
  ·conv => whnf
   repeat (first | exact fa | ((first | refine fb ?_ | (refine And.intro ?_ ?_; rotate_left)); conv => whnf))
  ·rintro i ⟨hi, hinv⟩
   have e1 : ((i : Int) - 1).toNat = i - 1 := by omega
   conv => whnf
   repeat' (first | refine sq ?_ | refine bk ?_ | ((first | refine rg ttok ?_ | refine dw ttok mixed ?_ | refine cd ?_ | refine sk ?_ | refine xt ?_ | refine rt ?_); conv => whnf) | (refine And.intro (fun h => ?_) (fun h => ?_) <;> (try simp only [brsA] at h) <;> conv => whnf) | ((first | refine wf ?_ | refine wp' ?_ | refine ai ?_ | refine And.intro rfl ?_ | refine an ?_ | fail); conv => whnf))
   all_goals (try simp only [brsD] at *)
   all_goals (try simp only [e1] at *)
   all_goals try
    refine (decide_eq_false fun hM => ?_).symm
    obtain ⟨⟨k1, k2, k3, k4, k5⟩, k6⟩ := hM.2.2.2.1 i (by omega)
    first | omega | (have k7 := k6 (by omega); rw [ordI_neg] at k7; unfold lexLt at k7; omega)
   all_goals try
    refine ⟨i + 1, ⟨by omega, fun k hk => ?_⟩, (by show ls.length - (i + 1) < ls.length - i; omega), ?_⟩
    ·rcases Nat.lt_or_ge k i with hk' | hk'
     ·exact hinv k hk'
     ·have : k = i := by omega
      subst this
      refine ⟨⟨by omega, by omega, by omega, by omega, by omega⟩, fun h0 => ?_⟩
      rw [ordI_neg]; unfold lexLt; omega
    ·conv => whnf
     repeat (first | exact fa | ((first | refine fb ?_ | (refine And.intro ?_ ?_; rotate_left)); conv => whnf))
   have hS : SortedP rk.length ls := fun k hk => hinv k (by omega)
   clear hi hinv h e1
   refine WA_loopI (fun i : Nat => i ≤ ls.length ∧ ∀ k, k < i → (ls.getD k default).m = -1 ∨ JoinP rk ls (ls.getD k default)) (fun i => [(5, .int .i64 (i : Int))]) (fun _ => [.box 32 [intsA rk, lksA ls]]) (fun i => ls.length - i) 0 ⟨by omega, fun k hk => by omega⟩ ?_ ?_
   ·conv => whnf
    repeat (first | exact fa | ((first | refine fb ?_ | (refine And.intro ?_ ?_; rotate_left)); conv => whnf))
   ·rintro i ⟨hi, hinv⟩
    have hok : (i : Int) < ls.length → (0 ≤ (ls.getD (i : Int).toNat default).t ∧ (ls.getD (i : Int).toNat default).t < rk.length) ∧ (0 ≤ (ls.getD (i : Int).toNat default).f ∧ (ls.getD (i : Int).toNat default).f < rk.length) := fun h => ⟨((hS i (by omega)).1).2.1, ((hS i (by omega)).1).1⟩
    have p1 := posL_in hS (ls.getD (i : Int).toNat default).f (ls.getD (i : Int).toNat default).m
    have p2 := posL_in hS (ls.getD (i : Int).toNat default).m (ls.getD (i : Int).toNat default).t
    conv => whnf
    repeat' (first | refine sq ?_ | refine bk ?_ | ((first | refine rg ttok ?_ | refine dw ttok mixed ?_ | refine cd ?_ | refine sk ?_ | refine xt ?_ | refine rt ?_); conv => whnf) | (refine And.intro (fun h => ?_) (fun h => ?_) <;> (try simp only [brsA] at h) <;> conv => whnf) | (refine Or.inl ?_; (conv => whnf); refine ⟨_, refLink_p _ _ _ hl, ?_⟩; conv => whnf) | ((first | refine wf ?_ | refine wp' ?_ | refine ai ?_ | refine And.intro rfl ?_ | refine an ?_ | fail); conv => whnf))
    all_goals (try simp only [brsD] at *)
    all_goals try
     refine (decide_eq_false fun hM => ?_).symm
     obtain ⟨k0, k1, k2, k3, k4, k5⟩ := (hM.2.2.2.2 i (by omega)).resolve_left (by omega)
     omega
    all_goals try
     refine (decide_eq_true ⟨by omega, by omega, hRk, hS, fun k hk => hinv k (by omega)⟩).symm
    all_goals
     refine ⟨i + 1, ⟨by omega, fun k hk => ?_⟩, (by show ls.length - (i + 1) < ls.length - i; omega), ?_⟩
     ·rcases Nat.lt_or_ge k i with hk' | hk'
      ·exact hinv k hk'
      ·have : k = i := by omega
       subst this
       first
        | exact .inl h
        | exact .inr ((RefJ_iff hS _).1 ⟨by omega, by omega, by omega, by omega, by omega⟩)
     ·conv => whnf
      repeat (first | exact fa | ((first | refine fb ?_ | (refine And.intro ?_ ?_; rotate_left)); conv => whnf))
 ·exact (decide_eq_false fun hM => by have := hM.2.1; omega).symm
 ·exact (decide_eq_false fun hM => by have := hM.1; omega).symm
end Go.Proofs.YtnkbkfjgbejhfaaGreat
namespace Go.Proofs.YtnkbkfjgbejhfaaGreat
open Go.Proofs.YtnkbkfjgbejhfaaGreat.Am
variable [Inhabited DRT]
variable {G : GInv}
theorem ranks_ne {l : List Int} (h : RanksP l) {i j : Nat} (hi : i < l.length) (hj : j < l.length) (hne : i ≠ j) : l.getD i 0 ≠ l.getD j 0 := by
 rcases Nat.lt_or_gt_of_ne hne with h' | h'
 ·exact (h j hj).2 i h'
 ·exact fun e => (h i hi).2 j h' e.symm
end Go.Proofs.YtnkbkfjgbejhfaaGreat
namespace Go.Proofs.YtnkbkfjgbejhfaaGreat
open Go.Proofs.YtnkbkfjgbejhfaaGreat.Am
variable [Inhabited DRT]
variable {G : GInv}
end Go.Proofs.YtnkbkfjgbejhfaaGreat
namespace Go.Proofs.YtnkbkfjgbejhfaaGreat
open Go.Proofs.YtnkbkfjgbejhfaaGreat.Am Go.HeapL
variable [Inhabited DRT]
/-! ### A hierarchy's links as arcs, up and down: plain laws -/
abbrev rkI (rk : List Int) (v : Int) : Int := rk.getD v.toNat 0
def upE (rk : List Int) (ls : List Lk) (u : Int) : List It := ls.filterMap (upF rk u)
def dnE (rk : List Int) (ls : List Lk) (u : Int) : List It := ls.filterMap (downF rk u)
theorem mem_at' {ls : List Lk} {x : Lk} : x ∈ ls ↔ ∃ i, i < ls.length ∧ ls.getD i default = x := by
 constructor
 ·intro h
  obtain ⟨i, hi, e⟩ := List.getElem_of_mem h
  exact ⟨i, hi, by rw [List.getD_eq_getElem?_getD, List.getElem?_eq_getElem hi]; exact e⟩
 ·rintro ⟨i, hi, rfl⟩
  rw [List.getD_eq_getElem?_getD, List.getElem?_eq_getElem hi]; exact List.getElem_mem hi
theorem upE_mem (rk : List Int) (ls : List Lk) (u w v : Int) : (w, v) ∈ upE rk ls u ↔ ∃ i, i < ls.length ∧ (ls.getD i default).f = u ∧ (ls.getD i default).t = v ∧ (ls.getD i default).w = w ∧ rkI rk (ls.getD i default).f < rkI rk (ls.getD i default).t := by
 unfold upE
 rw [List.mem_filterMap]
 constructor
 ·rintro ⟨x, hx, e⟩
  obtain ⟨i, hi, rfl⟩ := mem_at'.1 hx
  unfold upF at e
  split at e
  ·rename_i h
   simp only [Option.some.injEq, Prod.mk.injEq] at e
   exact ⟨i, hi, h.1, e.2, e.1, by rw [h.1]; exact h.2⟩
  ·cases e
 ·rintro ⟨i, hi, h1, h2, h3, h4⟩
  refine ⟨_, mem_at'.2 ⟨i, hi, rfl⟩, ?_⟩
  unfold upF
  rw [if_pos ⟨h1, by rw [← h1]; exact h4⟩, h2, h3]
theorem dnE_mem (rk : List Int) (ls : List Lk) (u w v : Int) : (w, v) ∈ dnE rk ls u ↔ ∃ i, i < ls.length ∧ (ls.getD i default).t = u ∧ (ls.getD i default).f = v ∧ (ls.getD i default).w = w ∧ rkI rk (ls.getD i default).t < rkI rk (ls.getD i default).f := by
 unfold dnE
 rw [List.mem_filterMap]
 constructor
 ·rintro ⟨x, hx, e⟩
  obtain ⟨i, hi, rfl⟩ := mem_at'.1 hx
  unfold downF at e
  split at e
  ·rename_i h
   simp only [Option.some.injEq, Prod.mk.injEq] at e
   exact ⟨i, hi, h.1, e.2, e.1, by rw [h.1]; exact h.2⟩
  ·cases e
 ·rintro ⟨i, hi, h1, h2, h3, h4⟩
  refine ⟨_, mem_at'.2 ⟨i, hi, rfl⟩, ?_⟩
  unfold downF
  rw [if_pos ⟨h1, by rw [← h1]; exact h4⟩, h2, h3]
/-- Starts, or ends, that may be. -/
def ItP (n : Nat) (l : List It) : Prop := l.length ≤ 1000 ∧ ∀ i, i < l.length → 0 ≤ (l.getD i (0, 0)).2 ∧ (l.getD i (0, 0)).2 < n ∧ 0 ≤ (l.getD i (0, 0)).1 ∧ (l.getD i (0, 0)).1 ≤ 1152921504606846976
instance (n : Nat) (l : List It) : Decidable (ItP n l) := inferInstanceAs (Decidable (_ ∧ ∀ i, i < l.length → _))
theorem ItP.mem {n : Nat} {l : List It} (h : ItP n l) {k v : Int} (hm : (k, v) ∈ l) : 0 ≤ v ∧ v < n ∧ 0 ≤ k ∧ k ≤ 1152921504606846976 := by
 obtain ⟨i, hi, e⟩ := mem_at hm
 have := h.2 i hi
 unfold gt at e
 rw [e] at this; exact this
theorem dat_up {rk : List Int} {ls : List Lk} (hS : SortedP rk.length ls) {l : List It} (h : ItP rk.length l) : Dat rk.length l (upE rk ls) :=
 ⟨fun k v hm => by have := h.mem hm; unfold NC; omega, fun u w v hm => by
  obtain ⟨i, hi, e1, e2, e3, _⟩ := (upE_mem rk ls u w v).1 hm
  have ho := (hS i hi).1
  unfold okL at ho; rw [e2, e3] at ho; omega⟩
theorem dat_dn {rk : List Int} {ls : List Lk} (hS : SortedP rk.length ls) {l : List It} (h : ItP rk.length l) : Dat rk.length l (dnE rk ls) :=
 ⟨fun k v hm => by have := h.mem hm; unfold NC; omega, fun u w v hm => by
  obtain ⟨i, hi, e1, e2, e3, _⟩ := (dnE_mem rk ls u w v).1 hm
  have ho := (hS i hi).1
  unfold okL at ho; rw [e2, e3] at ho; omega⟩
def rkN (rk : List Int) (v : Int) : Nat := (rkI rk v).toNat
theorem rise_up {rk : List Int} {ls : List Lk} (hR : RanksP rk) (hS : SortedP rk.length ls) (u w v : Int) (h : (w, v) ∈ upE rk ls u) : rkN rk u < rkN rk v := by
 obtain ⟨i, hi, e1, e2, e3, e4⟩ := (upE_mem rk ls u w v).1 h
 have ho := (hS i hi).1
 unfold okL at ho
 have r1 := (hR (ls.getD i default).f.toNat (by omega)).1
 unfold rkN rkI at *
 rw [e1, e2] at e4
 rw [e1] at r1
 omega
theorem rise_dn {rk : List Int} {ls : List Lk} (hR : RanksP rk) (hS : SortedP rk.length ls) (u w v : Int) (h : (w, v) ∈ dnE rk ls u) : rkN rk u < rkN rk v := by
 obtain ⟨i, hi, e1, e2, e3, e4⟩ := (dnE_mem rk ls u w v).1 h
 have ho := (hS i hi).1
 unfold okL at ho
 have r1 := (hR (ls.getD i default).t.toNat (by omega)).1
 unfold rkN rkI at *
 rw [e1, e2] at e4
 rw [e1] at r1
 omega
theorem rkN_le {rk : List Int} (hR : RanksP rk) {v : Int} (h : 0 ≤ v ∧ v < rk.length) : rkN rk v + 1 ≤ rk.length := by
 have r1 := (hR v.toNat (by omega)).1
 unfold rkN rkI
 omega
/-! ### Walks as lists -/
def wAt (ls : List Lk) (a b : Int) : Int := (ls.getD (posL ls a b).toNat default).w
def wsum (ls : List Lk) : List Int → Int
 | x :: y :: l => wAt ls x y + wsum ls (y :: l)
 | _ => 0
def chn (ls : List Lk) : List Int → Prop
 | x :: y :: l => 0 ≤ posL ls x y ∧ chn ls (y :: l)
 | _ => True
theorem uniqL {n : Nat} {ls : List Lk} (hS : SortedP n ls) {i : Nat} (hi : i < ls.length) : posL ls (ls.getD i default).f (ls.getD i default).t = (i : Int) := by
 rcases posL_cases ls (ls.getD i default).f (ls.getD i default).t with ⟨_, h⟩ | ⟨j, h1, h2, h3, h4⟩
 ·exact absurd ⟨rfl, rfl⟩ (h i hi)
 ·rw [h1]
  have key : ∀ i j, i < j → j < ls.length → (ls.getD i default).f = (ls.getD j default).f → (ls.getD i default).t = (ls.getD j default).t → False := by
   intro i j hij hj h1 h2
   have := rising hS i (j - i - 1) (by omega)
   rw [show i + (j - i - 1 + 1) = j by omega] at this
   unfold lexLt at this
   omega
  rcases Nat.lt_trichotomy i j with h | h | h
  ·exact (key i j h h2 h3.symm h4.symm).elim
  ·rw [h]
  ·exact (key j i h hi h3 h4).elim
theorem up_pos {rk : List Int} {ls : List Lk} (hS : SortedP rk.length ls) {u w v : Int} (h : (w, v) ∈ upE rk ls u) : 0 ≤ posL ls u v ∧ wAt ls u v = w := by
 obtain ⟨i, hi, e1, e2, e3, _⟩ := (upE_mem rk ls u w v).1 h
 have := uniqL hS hi
 rw [e1, e2] at this
 unfold wAt
 rw [this]
 exact ⟨by omega, e3⟩
theorem dn_pos {rk : List Int} {ls : List Lk} (hS : SortedP rk.length ls) {u w v : Int} (h : (w, v) ∈ dnE rk ls u) : 0 ≤ posL ls v u ∧ wAt ls v u = w := by
 obtain ⟨i, hi, e1, e2, e3, _⟩ := (dnE_mem rk ls u w v).1 h
 have := uniqL hS hi
 rw [e1, e2] at this
 unfold wAt
 rw [this]
 exact ⟨by omega, e3⟩
theorem wsum_app (ls : List Lk) (v : Int) (ys : List Int) : ∀ xs : List Int, wsum ls (xs ++ v :: ys) = wsum ls (xs ++ [v]) + wsum ls (v :: ys)
 | [] => by simp [wsum]
 | [x] => by simp [wsum]
 | x :: y :: l => by
  have := wsum_app ls v ys (y :: l)
  simp only [List.cons_append, wsum] at this ⊢
  omega
theorem chn_app (ls : List Lk) (v : Int) (ys : List Int) : ∀ xs : List Int, chn ls (xs ++ [v]) → chn ls (v :: ys) → chn ls (xs ++ v :: ys)
 | [], _, h => h
 | [x], h1, h2 => ⟨h1.1, h2⟩
 | x :: y :: l, h1, h2 => ⟨h1.1, chn_app ls v ys (y :: l) h1.2 h2⟩
/-- A way back on the side of the ends. -/
theorem pc_dn {rk : List Int} {ls : List Lk} (hS : SortedP rk.length ls) {sz : List It} {p : List Int} {k : Int} (h : PC sz (dnE rk ls) p k) :
  chn ls p ∧ ∃ k0, (k0, p.getLastD 0) ∈ sz ∧ (∀ k', (k', p.getLastD 0) ∈ sz → k0 ≤ k') ∧ k = k0 + wsum ls p := by
 induction h with
 | one h hm => exact ⟨trivial, _, h, hm, by simp [wsum]⟩
 | cons h h2 ih =>
  obtain ⟨c, k0, i1, i2, i3⟩ := ih
  obtain ⟨q1, q2⟩ := dn_pos hS h2
  refine ⟨⟨q1, c⟩, k0, by simpa using i1, by simpa using i2, ?_⟩
  rw [i3, wsum, q2]; omega
/-- A way back on the side of the starts, turned. -/
theorem pc_up {rk : List Int} {ls : List Lk} (hS : SortedP rk.length ls) {sa : List It} {p : List Int} {k : Int} (h : PC sa (upE rk ls) p k) :
  chn ls p.reverse ∧ ∃ k0, (k0, p.getLastD 0) ∈ sa ∧ (∀ k', (k', p.getLastD 0) ∈ sa → k0 ≤ k') ∧ k = k0 + wsum ls p.reverse := by
 induction h with
 | one h hm => exact ⟨trivial, _, h, hm, by simp [wsum]⟩
 | cons h h2 ih =>
  obtain ⟨c, k0, i1, i2, i3⟩ := ih
  obtain ⟨q1, q2⟩ := up_pos hS h2
  simp only [List.reverse_cons, List.append_assoc, List.cons_append, List.nil_append] at c i3 ⊢
  refine ⟨chn_app ls _ _ _ c ⟨q1, trivial⟩, k0, by simpa using i1, by simpa using i2, ?_⟩
  rw [wsum_app, i3, wsum, q2]
  simp [wsum]; omega
end Go.Proofs.YtnkbkfjgbejhfaaGreat
