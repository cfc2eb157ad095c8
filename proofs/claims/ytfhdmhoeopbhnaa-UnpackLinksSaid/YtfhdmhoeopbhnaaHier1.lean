/-
  The walks of the package hier and of its references, part 1.
-/
import Derived.Test.YtfhdmhoeopbhnaaAm4
import Derived.Test.YtfhdmhoeopbhnaaRows
import Derived.Test.YtfhdmhoeopbhnaaAm5
namespace Go.Proofs.Ytfhdmhoeopbhnaa
open Go.Proofs.Ytfhdmhoeopbhnaa.Am
def tt : TT := [
  (1, ⟨false, 1, [], 0, 0, 0, 0, [.nilfn], 0, .i64, none⟩),
  (2, ⟨false, 1, [], 0, 0, 0, 0, [.int .i64 0], 5, .i64, some [5]⟩),
  (3, ⟨false, 1, [], 0, 0, 0, 0, [.int .i64 0], 5, .i64, some [5]⟩),
  (4, ⟨false, 1, [], 0, 0, 0, 0, [.bool false], 6, .i64, some [6]⟩),
  (5, ⟨false, 1, [], 0, 0, 0, 0, [.int .u8 0], 5, .u8, some [5]⟩),
  (9, ⟨false, 1, [], 0, 0, 0, 0, [.str []], 4, .i64, some [4]⟩),
  (12, ⟨false, 1, [], 0, 0, 0, 0, [.int .u64 0], 5, .u64, some [5]⟩),
  (15, ⟨false, 1, [], 0, 0, 0, 0, [.nilp], 0, .i64, none⟩),
  (16, ⟨false, 1, [], 0, 0, 0, 0, [.nilp], 0, .i64, none⟩),
  (17, ⟨false, 1, [], 0, 0, 0, 0, [.nilp], 0, .i64, none⟩),
  (20, ⟨false, 1, [], 0, 0, 0, 0, [.junk], 0, .i64, none⟩),
  (21, ⟨false, 1, [], 0, 0, 0, 0, [.int .i32 0], 5, .i32, some [5]⟩),
  (22, ⟨false, 1, [], 3, 1, 8, 0, [.nils], 3, .i64, none⟩),
  (23, ⟨false, 1, [], 29, 4, 32, 0, [.nils], 3, .i64, none⟩),
  (24, ⟨true, 2, [(0, 1), (1, 1)], 0, 0, 0, 0, [.nils, .nils], 1, .i64, none⟩),
  (25, ⟨true, 2, [(0, 1), (1, 1)], 0, 0, 0, 0, [.nils, .nils], 1, .i64, none⟩),
  (26, ⟨false, 1, [], 0, 0, 0, 0, [.nilfn], 0, .i64, none⟩),
  (27, ⟨false, 1, [], 0, 0, 0, 0, [.nilfn], 0, .i64, none⟩),
  (28, ⟨true, 4, [(0, 1), (1, 1), (2, 1), (3, 1)], 0, 0, 0, 0, [.int .i64 0, .int .i64 0, .int .i64 0, .int .i64 0], 1, .i64, some [5, 5, 5, 5]⟩),
  (29, ⟨true, 4, [(0, 1), (1, 1), (2, 1), (3, 1)], 0, 0, 0, 0, [.int .i64 0, .int .i64 0, .int .i64 0, .int .i64 0], 1, .i64, some [5, 5, 5, 5]⟩),
  (31, ⟨false, 1, [], 0, 0, 0, 0, [.nilfn], 0, .i64, none⟩),
  (32, ⟨false, 1, [], 92, 2, 16, 0, [.nils], 3, .i64, none⟩),
  (33, ⟨false, 1, [], 0, 0, 0, 0, [.nilfn], 0, .i64, none⟩),
  (34, ⟨false, 1, [], 0, 0, 0, 0, [.nilfn], 0, .i64, none⟩),
  (35, ⟨false, 1, [], 0, 0, 0, 0, [.nilfn], 0, .i64, none⟩),
  (36, ⟨false, 1, [], 0, 0, 0, 0, [.nilfn], 0, .i64, none⟩),
  (37, ⟨false, 1, [], 0, 0, 0, 0, [.nilfn], 0, .i64, none⟩),
  (38, ⟨false, 1, [], 0, 0, 0, 0, [.nilfn], 0, .i64, none⟩),
  (39, ⟨false, 1, [], 0, 0, 0, 0, [.nilfn], 0, .i64, none⟩),
  (40, ⟨false, 1, [], 0, 0, 0, 0, [.int .i64 0], 5, .i64, some [5]⟩),
  (42, ⟨false, 1, [], 0, 0, 0, 0, [.nilfn], 0, .i64, none⟩),
  (44, ⟨false, 1, [], 0, 0, 0, 0, [.nilfn], 0, .i64, none⟩),
  (45, ⟨false, 1, [], 0, 0, 0, 0, [.nilfn], 0, .i64, none⟩),
  (46, ⟨false, 1, [], 0, 0, 0, 0, [.nilfn], 0, .i64, none⟩),
  (47, ⟨true, 2, [(0, 1), (1, 1)], 0, 0, 0, 0, [.nils, .nils], 1, .i64, none⟩),
  (48, ⟨true, 2, [(0, 1), (1, 1)], 0, 0, 0, 0, [.nils, .nils], 1, .i64, none⟩),
  (49, ⟨false, 1, [], 0, 0, 0, 0, [.nilfn], 0, .i64, none⟩),
  (50, ⟨false, 1, [], 0, 0, 0, 0, [.nilfn], 0, .i64, none⟩),
  (52, ⟨false, 1, [], 0, 0, 0, 0, [.nilfn], 0, .i64, none⟩),
  (53, ⟨false, 1, [], 0, 0, 0, 0, [.nilfn], 0, .i64, none⟩),
  (54, ⟨false, 1, [], 0, 0, 0, 0, [.nilfn], 0, .i64, none⟩),
  (55, ⟨false, 1, [], 0, 0, 0, 0, [.nilfn], 0, .i64, none⟩),
  (56, ⟨false, 1, [], 0, 0, 0, 0, [.nilfn], 0, .i64, none⟩),
  (57, ⟨false, 1, [], 62, 4, 32, 0, [.nils], 3, .i64, none⟩),
  (58, ⟨false, 1, [], 0, 0, 0, 0, [.nilfn], 0, .i64, none⟩),
  (59, ⟨true, 2, [(0, 1), (1, 1)], 0, 0, 0, 0, [.int .i64 0, .int .i64 0], 1, .i64, some [5, 5]⟩),
  (60, ⟨true, 2, [(0, 1), (1, 1)], 0, 0, 0, 0, [.int .i64 0, .int .i64 0], 1, .i64, some [5, 5]⟩),
  (61, ⟨true, 4, [(0, 2), (2, 2)], 0, 0, 0, 0, [.int .i64 0, .int .i64 0, .int .i64 0, .int .i64 0], 1, .i64, some [5, 5, 5, 5]⟩),
  (62, ⟨true, 4, [(0, 2), (2, 2)], 0, 0, 0, 0, [.int .i64 0, .int .i64 0, .int .i64 0, .int .i64 0], 1, .i64, some [5, 5, 5, 5]⟩),
  (64, ⟨false, 1, [], 0, 0, 0, 0, [.nilfn], 0, .i64, none⟩),
  (65, ⟨false, 1, [], 0, 0, 0, 0, [.nilfn], 0, .i64, none⟩),
  (66, ⟨false, 1, [], 0, 0, 0, 0, [.nilfn], 0, .i64, none⟩),
  (67, ⟨false, 1, [], 0, 0, 0, 0, [.nilfn], 0, .i64, none⟩),
  (68, ⟨false, 1, [], 72, 2, 16, 0, [.nils], 3, .i64, none⟩),
  (70, ⟨false, 1, [], 0, 0, 0, 0, [.nilfn], 0, .i64, none⟩),
  (71, ⟨false, 1, [], 0, 0, 0, 0, [.nilfn], 0, .i64, none⟩),
  (72, ⟨true, 2, [], 3, 1, 8, 2, [.int .i64 0, .int .i64 0], 2, .i64, some [5, 5]⟩),
  (73, ⟨false, 1, [], 0, 0, 0, 0, [.nilfn], 0, .i64, none⟩),
  (74, ⟨true, 8, [(0, 1), (1, 1), (2, 1), (3, 1), (4, 2), (6, 2)], 0, 0, 0, 0, [.int .i64 0, .int .i64 0, .int .i64 0, .int .i64 0, .int .i64 0, .int .i64 0, .int .i64 0, .int .i64 0], 1, .i64, some [5, 5, 5, 5, 5, 5, 5, 5]⟩),
  (75, ⟨true, 8, [(0, 1), (1, 1), (2, 1), (3, 1), (4, 2), (6, 2)], 0, 0, 0, 0, [.int .i64 0, .int .i64 0, .int .i64 0, .int .i64 0, .int .i64 0, .int .i64 0, .int .i64 0, .int .i64 0], 1, .i64, some [5, 5, 5, 5, 5, 5, 5, 5]⟩),
  (76, ⟨false, 1, [], 0, 0, 0, 0, [.nilfn], 0, .i64, none⟩),
  (78, ⟨false, 1, [], 0, 0, 0, 0, [.nilfn], 0, .i64, none⟩),
  (79, ⟨false, 1, [], 0, 0, 0, 0, [.nilfn], 0, .i64, none⟩),
  (80, ⟨false, 1, [], 0, 0, 0, 0, [.int .u64 0], 5, .u64, some [5]⟩),
  (81, ⟨true, 8, [], 80, 1, 8, 8, [.int .u64 0, .int .u64 0, .int .u64 0, .int .u64 0, .int .u64 0, .int .u64 0, .int .u64 0, .int .u64 0], 2, .i64, some [5, 5, 5, 5, 5, 5, 5, 5]⟩),
  (82, ⟨true, 8, [], 80, 1, 8, 8, [.int .u64 0, .int .u64 0, .int .u64 0, .int .u64 0, .int .u64 0, .int .u64 0, .int .u64 0, .int .u64 0], 2, .i64, some [5, 5, 5, 5, 5, 5, 5, 5]⟩),
  (83, ⟨true, 9, [(0, 1), (1, 8)], 0, 0, 0, 0, [.bool false, .int .u64 0, .int .u64 0, .int .u64 0, .int .u64 0, .int .u64 0, .int .u64 0, .int .u64 0, .int .u64 0], 1, .i64, some [6, 5, 5, 5, 5, 5, 5, 5, 5]⟩),
  (84, ⟨true, 9, [(0, 1), (1, 8)], 0, 0, 0, 0, [.bool false, .int .u64 0, .int .u64 0, .int .u64 0, .int .u64 0, .int .u64 0, .int .u64 0, .int .u64 0, .int .u64 0], 1, .i64, some [6, 5, 5, 5, 5, 5, 5, 5, 5]⟩),
  (85, ⟨true, 17, [(0, 9), (9, 8)], 0, 0, 0, 0, [.bool false, .int .u64 0, .int .u64 0, .int .u64 0, .int .u64 0, .int .u64 0, .int .u64 0, .int .u64 0, .int .u64 0, .int .u64 0, .int .u64 0, .int .u64 0, .int .u64 0, .int .u64 0, .int .u64 0, .int .u64 0, .int .u64 0], 1, .i64, some [6, 5, 5, 5, 5, 5, 5, 5, 5, 5, 5, 5, 5, 5, 5, 5, 5]⟩),
  (86, ⟨true, 17, [(0, 9), (9, 8)], 0, 0, 0, 0, [.bool false, .int .u64 0, .int .u64 0, .int .u64 0, .int .u64 0, .int .u64 0, .int .u64 0, .int .u64 0, .int .u64 0, .int .u64 0, .int .u64 0, .int .u64 0, .int .u64 0, .int .u64 0, .int .u64 0, .int .u64 0, .int .u64 0], 1, .i64, some [6, 5, 5, 5, 5, 5, 5, 5, 5, 5, 5, 5, 5, 5, 5, 5, 5]⟩),
  (87, ⟨false, 1, [], 0, 0, 0, 0, [.nilfn], 0, .i64, none⟩),
  (88, ⟨false, 1, [], 0, 0, 0, 0, [.nilfn], 0, .i64, none⟩),
  (89, ⟨false, 1, [], 0, 0, 0, 0, [.nilfn], 0, .i64, none⟩),
  (90, ⟨false, 1, [], 0, 0, 0, 0, [.nilfn], 0, .i64, none⟩),
  (91, ⟨true, 2, [(0, 1), (1, 1)], 0, 0, 0, 0, [.int .i64 0, .int .i64 0], 1, .i64, some [5, 5]⟩),
  (92, ⟨true, 2, [(0, 1), (1, 1)], 0, 0, 0, 0, [.int .i64 0, .int .i64 0], 1, .i64, some [5, 5]⟩),
  (93, ⟨false, 1, [], 0, 0, 0, 0, [.nilfn], 0, .i64, none⟩),
  (95, ⟨false, 1, [], 0, 0, 0, 0, [.nilfn], 0, .i64, none⟩),
  (96, ⟨false, 1, [], 0, 0, 0, 0, [.nilfn], 0, .i64, none⟩),
  (97, ⟨false, 1, [], 0, 0, 0, 0, [.nilfn], 0, .i64, none⟩),
  (98, ⟨false, 1, [], 0, 0, 0, 0, [.nilfn], 0, .i64, none⟩),
  (99, ⟨false, 1, [], 0, 0, 0, 0, [.nilfn], 0, .i64, none⟩),
  (100, ⟨false, 1, [], 22, 1, 24, 0, [.nils], 3, .i64, none⟩),
  (101, ⟨false, 1, [], 0, 0, 0, 0, [.nilfn], 0, .i64, none⟩),
  (102, ⟨false, 1, [], 3, 0, 0, 105, [.nilm], 7, .i64, none⟩),
  (103, ⟨false, 1, [], 0, 0, 0, 0, [.nilfn], 0, .i64, none⟩),
  (104, ⟨true, 2, [(0, 1), (1, 1)], 0, 0, 0, 0, [.int .i64 0, .int .i64 0], 1, .i64, some [5, 5]⟩),
  (105, ⟨true, 2, [(0, 1), (1, 1)], 0, 0, 0, 0, [.int .i64 0, .int .i64 0], 1, .i64, some [5, 5]⟩),
  (107, ⟨false, 1, [], 0, 0, 0, 0, [.nilfn], 0, .i64, none⟩),
  (108, ⟨false, 1, [], 0, 0, 0, 0, [.nilfn], 0, .i64, none⟩),
  (109, ⟨false, 1, [], 0, 0, 0, 0, [.nilp], 0, .i64, none⟩),
  (110, ⟨true, 2, [(0, 1), (1, 1)], 0, 0, 0, 0, [.int .i64 0, .int .i64 0], 1, .i64, some [5, 5]⟩),
  (111, ⟨true, 2, [(0, 1), (1, 1)], 0, 0, 0, 0, [.int .i64 0, .int .i64 0], 1, .i64, some [5, 5]⟩),
  (113, ⟨false, 1, [], 0, 0, 0, 0, [.nilfn], 0, .i64, none⟩),
  (114, ⟨false, 1, [], 0, 0, 0, 0, [.nilfn], 0, .i64, none⟩),
  (115, ⟨false, 1, [], 0, 0, 0, 0, [.nilfn], 0, .i64, none⟩),
  (116, ⟨false, 1, [], 0, 0, 0, 0, [.nilp], 0, .i64, none⟩),
  (117, ⟨false, 1, [], 3, 0, 0, 3, [.nilm], 7, .i64, none⟩),
  (118, ⟨false, 1, [], 32, 1, 24, 0, [.nils], 3, .i64, none⟩),
  (119, ⟨true, 7, [(0, 1), (1, 1), (2, 1), (3, 1), (4, 1), (5, 1), (6, 1)], 0, 0, 0, 0, [.nilp, .nilm, .nilm, .nils, .nils, .int .i64 0, .bool false], 1, .i64, none⟩),
  (120, ⟨true, 7, [(0, 1), (1, 1), (2, 1), (3, 1), (4, 1), (5, 1), (6, 1)], 0, 0, 0, 0, [.nilp, .nilm, .nilm, .nils, .nils, .int .i64 0, .bool false], 1, .i64, none⟩),
  (121, ⟨false, 1, [], 0, 0, 0, 0, [.nilfn], 0, .i64, none⟩),
  (122, ⟨false, 1, [], 125, 5, 40, 0, [.nils], 3, .i64, none⟩),
  (123, ⟨false, 1, [], 0, 0, 0, 0, [.nilfn], 0, .i64, none⟩),
  (124, ⟨true, 5, [(0, 2), (2, 2), (4, 1)], 0, 0, 0, 0, [.int .i64 0, .int .i64 0, .int .i64 0, .int .i64 0, .int .i64 0], 1, .i64, some [5, 5, 5, 5, 5]⟩),
  (125, ⟨true, 5, [(0, 2), (2, 2), (4, 1)], 0, 0, 0, 0, [.int .i64 0, .int .i64 0, .int .i64 0, .int .i64 0, .int .i64 0], 1, .i64, some [5, 5, 5, 5, 5]⟩),
  (127, ⟨false, 1, [], 0, 0, 0, 0, [.nilfn], 0, .i64, none⟩),
  (128, ⟨false, 1, [], 0, 0, 0, 0, [.nilfn], 0, .i64, none⟩),
  (129, ⟨false, 1, [], 0, 0, 0, 0, [.nilfn], 0, .i64, none⟩),
  (130, ⟨false, 1, [], 0, 0, 0, 0, [.nilfn], 0, .i64, none⟩),
  (131, ⟨false, 1, [], 0, 0, 0, 0, [.nilfn], 0, .i64, none⟩),
  (132, ⟨false, 1, [], 0, 0, 0, 0, [.nilfn], 0, .i64, none⟩),
  (133, ⟨false, 1, [], 0, 0, 0, 0, [.nilfn], 0, .i64, none⟩),
  (134, ⟨false, 1, [], 0, 0, 0, 0, [.nilfn], 0, .i64, none⟩),
  (135, ⟨false, 1, [], 60, 2, 16, 0, [.nils], 3, .i64, none⟩),
  (136, ⟨false, 1, [], 0, 0, 0, 0, [.nilfn], 0, .i64, none⟩),
  (137, ⟨false, 1, [], 0, 0, 0, 0, [.nilfn], 0, .i64, none⟩),
  (139, ⟨false, 1, [], 0, 0, 0, 0, [.nilfn], 0, .i64, none⟩),
  (140, ⟨false, 1, [], 0, 0, 0, 0, [.nilfn], 0, .i64, none⟩),
  (141, ⟨false, 1, [], 0, 0, 0, 0, [.nilfn], 0, .i64, none⟩),
  (142, ⟨false, 1, [], 0, 0, 0, 0, [.nilfn], 0, .i64, none⟩),
  (143, ⟨true, 2, [(0, 1), (1, 1)], 0, 0, 0, 0, [.int .i64 0, .int .i64 0], 1, .i64, some [5, 5]⟩),
  (144, ⟨true, 2, [(0, 1), (1, 1)], 0, 0, 0, 0, [.int .i64 0, .int .i64 0], 1, .i64, some [5, 5]⟩),
  (145, ⟨false, 1, [], 0, 0, 0, 0, [.nilfn], 0, .i64, none⟩),
  (146, ⟨false, 1, [], 4, 1, 1, 0, [.nils], 3, .i64, none⟩),
  (147, ⟨false, 1, [], 0, 0, 0, 0, [.nilfn], 0, .i64, none⟩),
  (148, ⟨false, 1, [], 105, 2, 16, 0, [.nils], 3, .i64, none⟩),
  (149, ⟨true, 2, [(0, 1), (1, 1)], 0, 0, 0, 0, [.nils, .nils], 1, .i64, none⟩),
  (150, ⟨true, 2, [(0, 1), (1, 1)], 0, 0, 0, 0, [.nils, .nils], 1, .i64, none⟩),
  (151, ⟨false, 1, [], 0, 0, 0, 0, [.nilfn], 0, .i64, none⟩),
  (152, ⟨false, 1, [], 0, 0, 0, 0, [.nilfn], 0, .i64, none⟩),
  (153, ⟨false, 1, [], 0, 0, 0, 0, [.nilfn], 0, .i64, none⟩),
  (154, ⟨false, 1, [], 0, 0, 0, 0, [.nilp], 0, .i64, none⟩),
  (155, ⟨false, 1, [], 0, 0, 0, 0, [.nilfn], 0, .i64, none⟩),
  (156, ⟨false, 1, [], 0, 0, 0, 0, [.nilfn], 0, .i64, none⟩),
  (157, ⟨false, 1, [], 0, 0, 0, 0, [.nilfn], 0, .i64, none⟩),
  (158, ⟨false, 1, [], 0, 0, 0, 0, [.nilfn], 0, .i64, none⟩),
  (159, ⟨false, 1, [], 0, 0, 0, 0, [.nilfn], 0, .i64, none⟩),
  (160, ⟨false, 1, [], 0, 0, 0, 0, [.nilfn], 0, .i64, none⟩),
  (161, ⟨false, 1, [], 0, 0, 0, 0, [.int .u64 0], 5, .u64, some [5]⟩),
  (162, ⟨false, 1, [], 0, 0, 0, 0, [.nilfn], 0, .i64, none⟩),
  (163, ⟨false, 1, [], 0, 0, 0, 0, [.nilfn], 0, .i64, none⟩),
  (164, ⟨false, 1, [], 0, 0, 0, 0, [.nilfn], 0, .i64, none⟩),
  (165, ⟨false, 1, [], 0, 0, 0, 0, [.nilfn], 0, .i64, none⟩),
  (166, ⟨false, 1, [], 0, 0, 0, 0, [.nilfn], 0, .i64, none⟩),
  (168, ⟨false, 1, [], 0, 0, 0, 0, [.nilfn], 0, .i64, none⟩),
  (170, ⟨false, 1, [], 0, 0, 0, 0, [.nilfn], 0, .i64, none⟩),
  (172, ⟨false, 1, [], 0, 0, 0, 0, [.nilfn], 0, .i64, none⟩),
  (174, ⟨false, 1, [], 0, 0, 0, 0, [.nilfn], 0, .i64, none⟩),
  (175, ⟨false, 1, [], 80, 1, 8, 0, [.nils], 3, .i64, none⟩),
  (176, ⟨false, 1, [], 0, 0, 0, 0, [.nilfn], 0, .i64, none⟩),
  (177, ⟨false, 1, [], 0, 0, 0, 0, [.nilfn], 0, .i64, none⟩),
  (178, ⟨false, 1, [], 0, 0, 0, 0, [.nilfn], 0, .i64, none⟩),
  (179, ⟨false, 1, [], 0, 0, 0, 0, [.nilfn], 0, .i64, none⟩),
  (181, ⟨false, 1, [], 0, 0, 0, 0, [.nilfn], 0, .i64, none⟩),
  (182, ⟨false, 1, [], 0, 0, 0, 0, [.nilfn], 0, .i64, none⟩),
  (183, ⟨false, 1, [], 0, 0, 0, 0, [.nilfn], 0, .i64, none⟩),
  (184, ⟨false, 1, [], 0, 0, 0, 0, [.nilfn], 0, .i64, none⟩),
  (185, ⟨false, 1, [], 0, 0, 0, 0, [.nilfn], 0, .i64, none⟩),
  (186, ⟨false, 1, [], 0, 0, 0, 0, [.nilfn], 0, .i64, none⟩),
  (188, ⟨false, 1, [], 0, 0, 0, 0, [.nilfn], 0, .i64, none⟩),
  (189, ⟨false, 1, [], 0, 0, 0, 0, [.nilfn], 0, .i64, none⟩),
  (190, ⟨false, 1, [], 0, 0, 0, 0, [.nilfn], 0, .i64, none⟩),
  (191, ⟨false, 1, [], 0, 0, 0, 0, [.nilfn], 0, .i64, none⟩),
  (192, ⟨false, 1, [], 0, 0, 0, 0, [.int .i64 0], 5, .i64, some [5]⟩),
  (194, ⟨false, 1, [], 0, 0, 0, 0, [.nilfn], 0, .i64, none⟩),
  (195, ⟨false, 1, [], 0, 0, 0, 0, [.nilfn], 0, .i64, none⟩),
  (196, ⟨false, 1, [], 0, 0, 0, 0, [.nilfn], 0, .i64, none⟩),
  (197, ⟨false, 1, [], 0, 0, 0, 0, [.nilfn], 0, .i64, none⟩),
  (198, ⟨false, 1, [], 0, 0, 0, 0, [.nilfn], 0, .i64, none⟩),
  (199, ⟨false, 1, [], 0, 0, 0, 0, [.int .u32 0], 5, .u32, some [5]⟩),
  (200, ⟨false, 1, [], 0, 0, 0, 0, [.nilfn], 0, .i64, none⟩),
  (201, ⟨false, 1, [], 0, 0, 0, 0, [.nilfn], 0, .i64, none⟩),
  (202, ⟨false, 1, [], 0, 0, 0, 0, [.nilfn], 0, .i64, none⟩),
  (203, ⟨false, 1, [], 0, 0, 0, 0, [.nilfn], 0, .i64, none⟩),
  (204, ⟨false, 1, [], 0, 0, 0, 0, [.nilfn], 0, .i64, none⟩),
  (205, ⟨false, 1, [], 0, 0, 0, 0, [.nilfn], 0, .i64, none⟩),
  (206, ⟨false, 1, [], 0, 0, 0, 0, [.nilfn], 0, .i64, none⟩),
  (207, ⟨false, 1, [], 0, 0, 0, 0, [.nilfn], 0, .i64, none⟩),
  (208, ⟨false, 1, [], 0, 0, 0, 0, [.nilfn], 0, .i64, none⟩),
  (210, ⟨false, 1, [], 0, 0, 0, 0, [.nilfn], 0, .i64, none⟩),
  (211, ⟨false, 1, [], 0, 0, 0, 0, [.nilfn], 0, .i64, none⟩),
  (212, ⟨true, 2, [(0, 1), (1, 1)], 0, 0, 0, 0, [.nils, .nilm], 1, .i64, none⟩),
  (213, ⟨true, 2, [(0, 1), (1, 1)], 0, 0, 0, 0, [.nils, .nilm], 1, .i64, none⟩),
  (214, ⟨false, 1, [], 0, 0, 0, 0, [.nilfn], 0, .i64, none⟩),
  (215, ⟨false, 1, [], 0, 0, 0, 0, [.nilfn], 0, .i64, none⟩),
  (216, ⟨false, 1, [], 0, 0, 0, 0, [.nilfn], 0, .i64, none⟩),
  (217, ⟨false, 1, [], 0, 0, 0, 0, [.nilfn], 0, .i64, none⟩),
  (218, ⟨false, 1, [], 0, 0, 0, 0, [.nilfn], 0, .i64, none⟩),
  (219, ⟨false, 1, [], 0, 0, 0, 0, [.nilfn], 0, .i64, none⟩),
  (220, ⟨false, 1, [], 0, 0, 0, 0, [.nilfn], 0, .i64, none⟩),
  (221, ⟨false, 1, [], 0, 0, 0, 0, [.nilfn], 0, .i64, none⟩),
  (222, ⟨false, 1, [], 0, 0, 0, 0, [.int .u64 0], 5, .u64, some [5]⟩),
  (223, ⟨false, 1, [], 0, 0, 0, 0, [.nilfn], 0, .i64, none⟩),
  (224, ⟨false, 1, [], 0, 0, 0, 0, [.nilfn], 0, .i64, none⟩),
  (225, ⟨false, 1, [], 0, 0, 0, 0, [.nilfn], 0, .i64, none⟩),
  (226, ⟨false, 1, [], 0, 0, 0, 0, [.nilp], 0, .i64, none⟩),
  (227, ⟨false, 1, [], 0, 0, 0, 0, [.nilfn], 0, .i64, none⟩),
  (228, ⟨false, 1, [], 0, 0, 0, 0, [.nilfn], 0, .i64, none⟩),
  (229, ⟨false, 1, [], 0, 0, 0, 0, [.nilfn], 0, .i64, none⟩),
  (230, ⟨false, 1, [], 0, 0, 0, 0, [.junk], 0, .i64, none⟩),
  (231, ⟨false, 1, [], 0, 0, 0, 0, [.junk], 0, .i64, none⟩),
  (232, ⟨false, 1, [], 0, 0, 0, 0, [.nilfn], 0, .i64, none⟩),
  (233, ⟨false, 1, [], 0, 0, 0, 0, [.nilfn], 0, .i64, none⟩),
  (234, ⟨false, 1, [], 0, 0, 0, 0, [.nilfn], 0, .i64, none⟩),
  (235, ⟨false, 1, [], 0, 0, 0, 0, [.nilfn], 0, .i64, none⟩),
  (236, ⟨false, 1, [], 0, 0, 0, 0, [.nilp], 0, .i64, none⟩),
  (238, ⟨false, 1, [], 0, 0, 0, 0, [.nilfn], 0, .i64, none⟩),
  (239, ⟨false, 1, [], 0, 0, 0, 0, [.nilfn], 0, .i64, none⟩),
  (240, ⟨false, 1, [], 0, 0, 0, 0, [.nilfn], 0, .i64, none⟩),
  (241, ⟨false, 1, [], 0, 0, 0, 0, [.nilfn], 0, .i64, none⟩),
  (242, ⟨false, 1, [], 0, 0, 0, 0, [.nilfn], 0, .i64, none⟩),
  (243, ⟨false, 1, [], 0, 0, 0, 0, [.nilfn], 0, .i64, none⟩),
  (244, ⟨false, 1, [], 0, 0, 0, 0, [.nilfn], 0, .i64, none⟩),
  (245, ⟨false, 1, [], 0, 0, 0, 0, [.nilfn], 0, .i64, none⟩),
  (246, ⟨false, 1, [], 0, 0, 0, 0, [.nilfn], 0, .i64, none⟩),
  (247, ⟨false, 1, [], 0, 0, 0, 0, [.nilfn], 0, .i64, none⟩),
  (248, ⟨false, 1, [], 0, 0, 0, 0, [.nilp], 0, .i64, none⟩),
  (249, ⟨false, 1, [], 0, 0, 0, 0, [.nilfn], 0, .i64, none⟩),
  (252, ⟨true, 0, [], 16, 1, 8, 0, [], 2, .i64, none⟩),
  (257, ⟨false, 1, [], 0, 0, 0, 0, [.nilfn], 0, .i64, none⟩),
  (258, ⟨false, 1, [], 0, 0, 0, 0, [.nilp], 0, .i64, none⟩),
  (261, ⟨true, 11, [(0, 1), (1, 1), (2, 1), (3, 1), (4, 1), (5, 1), (6, 1), (7, 1), (8, 1), (9, 1), (10, 1)], 0, 0, 0, 0, [.int .u64 0, .int .u64 0, .int .u32 0, .int .u8 0, .int .u8 0, .int .u8 0, .int .u8 0, .nilfn, .nilp, .int .i32 0, .int .i32 0], 1, .i64, none⟩),
  (263, ⟨true, 1, [(0, 1)], 0, 0, 0, 0, [.str []], 1, .i64, some [4]⟩),
  (264, ⟨true, 1, [(0, 1)], 0, 0, 0, 0, [.str []], 1, .i64, some [4]⟩),
  (265, ⟨false, 1, [], 0, 0, 0, 0, [.nilp], 0, .i64, none⟩)
]
theorem ttok : TTok Try.prog tt := TTok.of_map (by kernel_rfl)
end Go.Proofs.Ytfhdmhoeopbhnaa
set_option linter.unusedSimpArgs false
namespace Go.Proofs.Ytfhdmhoeopbhnaa
open Go.Proofs.Ytfhdmhoeopbhnaa.Am
variable {G : GInv}
structure Lk where
  f : Int
  t : Int
  w : Int
  m : Int
deriving Inhabited
def lkA (x : Lk) : List A := [.int .i64 x.f, .int .i64 x.t, .int .i64 x.w, .int .i64 x.m]
def lksA (l : List Lk) : A := .sl l.length 4 fun i => [.int .i64 (l.getD i default).f, .int .i64 (l.getD i default).t, .int .i64 (l.getD i default).w, .int .i64 (l.getD i default).m]
def intsA (l : List Int) : A := .sl l.length 1 fun i => [.int .i64 (l.getD i 0)]
def hierA (rk : List Int) (ls : List Lk) : A := .agg [intsA rk, lksA ls]
theorem i64_in {n : Int} (h : -9223372036854775808 ≤ n ∧ n ≤ 9223372036854775807) : IntKind.i64.wrap n = n := by rw [IntKind.wrap_i64]; omega
theorem vertex_c (rk : List Int) (ls : List Lk) (v : Int) : ACalls Try.prog G 62 [.agg [intsA rk, lksA ls], .int .i64 v] (.sb (decide (0 ≤ v) && decide (v < rk.length))) := by
  refine ACalls.of_WA ttok Try.func62 rfl rfl 12 rfl ?_
  conv => whnf
  repeat' (first | refine WA_seq ?_ | (refine WA_region ttok ?_; conv => whnf) | (refine WA_draw ttok mixed ?_; conv => whnf) | (refine WA_cond ?_; conv => whnf) | refine WA_block ?_ | (refine WA_skip ?_; conv => whnf) | (refine WA_exit ?_; conv => whnf) | (refine WA_ret ?_; conv => whnf) | (refine And.intro (fun h => ?_) (fun h => ?_) <;> (try simp only [brsA] at h) <;> conv => whnf) | (refine WR_fit ?_ ?_; (focus (first | exact wr_i64 (by omega) | exact wr_u64 (by omega) | exact wr_u8 (by omega) | exact wr_i32 (by omega) | exact wr_u32 (by omega))); conv => whnf) | (refine WR_wrap ?_; conv => whnf) | (refine And.intro (a := indepB _ _ = true) ?_ ?_; (focus kernel_rfl); conv => whnf) | (refine And.intro rfl ?_; conv => whnf) | (refine And.intro ?_ ?_; (focus (first | omega | (simp at *; omega))); conv => whnf))
  all_goals simp_all
  all_goals omega
/-- Ranks are each there once. -/
def RanksP (l : List Int) : Prop := ∀ i, i < l.length → (0 ≤ l.getD i 0 ∧ l.getD i 0 < l.length) ∧ ∀ j, j < i → l.getD j 0 ≠ l.getD i 0
instance (l : List Int) : Decidable (RanksP l) := inferInstanceAs (Decidable (∀ i, i < l.length → _))
def metR (l : List Int) (i : Nat) : Nat → List A := fun k => [.sb (decide (∃ j, j < i ∧ l.getD j 0 = (k : Int)))]
theorem ranks_c (l : List Int) (hl : l.length ≤ 1000000) : ACalls Try.prog G 57 [intsA l] (.sb (decide (RanksP l))) := by
  refine ACalls.of_WA ttok Try.func57 rfl rfl _ rfl ?_
  conv => whnf
  repeat' (first | refine WA_seq ?_ | (refine WA_region ttok ?_; conv => whnf) | (refine WA_draw ttok mixed ?_; conv => whnf) | (refine WA_cond ?_; conv => whnf) | refine WA_block ?_ | (refine WA_skip ?_; conv => whnf) | (refine WA_exit ?_; conv => whnf) | (refine WA_ret ?_; conv => whnf) | (refine And.intro (fun h => ?_) (fun h => ?_) <;> (try simp only [brsA] at h) <;> conv => whnf) | (refine WR_fit ?_ ?_; (focus (first | exact wr_i64 (by omega) | exact wr_u64 (by omega) | exact wr_u8 (by omega) | exact wr_i32 (by omega) | exact wr_u32 (by omega))); conv => whnf) | (refine WR_wrap ?_; conv => whnf) | (refine And.intro (a := indepB _ _ = true) ?_ ?_; (focus kernel_rfl); conv => whnf) | (refine And.intro rfl ?_; conv => whnf) | (refine And.intro ?_ ?_; (focus (first | omega | (simp at *; omega))); conv => whnf))
  refine WA_loopI (fun i : Nat => i ≤ l.length ∧ ∀ k, k < i → (0 ≤ l.getD k 0 ∧ l.getD k 0 < l.length) ∧ ∀ j, j < k → l.getD j 0 ≠ l.getD k 0) (fun i => [(11, .int .i64 (i : Int))]) (fun i => [.row 4 1 l.length (metR l i)]) (fun i => l.length - i) 0 ⟨by omega, fun k hk => by omega⟩ ?_ ?_
  · conv => whnf
    repeat (first | exact rfl | exact trivial | exact Or.inl (fun _ _ => rfl) | exact (fun _ => rfl) | exact (fun _ _ => rfl) | exact Or.inl (fun _ hi => absurd hi (Nat.not_lt_zero _)) | (refine And.intro rfl ?_; conv => whnf) | (refine And.intro (Or.inl (fun _ _ => rfl)) ?_; conv => whnf) | (refine And.intro (fun _ => rfl) ?_; conv => whnf) | (refine And.intro (fun _ _ => rfl) ?_; conv => whnf) | (refine And.intro ?_ ?_; rotate_left; conv => whnf))
    exact Or.inr fun k hk => by simp [metR, fitA.fitL, fitA, andL]
  · rintro i ⟨hi, hinv⟩
    conv => whnf
    repeat' (first | refine WA_seq ?_ | (refine WA_region ttok ?_; conv => whnf) | (refine WA_draw ttok mixed ?_; conv => whnf) | (refine WA_cond ?_; conv => whnf) | refine WA_block ?_ | (refine WA_skip ?_; conv => whnf) | (refine WA_exit ?_; conv => whnf) | (refine WA_ret ?_; conv => whnf) | (refine And.intro (fun h => ?_) (fun h => ?_) <;> (try simp only [brsA] at h) <;> conv => whnf) | (refine WR_fit ?_ ?_; (focus (first | exact wr_i64 (by omega) | exact wr_u64 (by omega) | exact wr_u8 (by omega) | exact wr_i32 (by omega) | exact wr_u32 (by omega))); conv => whnf) | (refine WR_wrap ?_; conv => whnf) | (refine And.intro (a := indepB _ _ = true) ?_ ?_; (focus kernel_rfl); conv => whnf) | (refine And.intro rfl ?_; conv => whnf) | (refine And.intro ?_ ?_; (focus (first | omega | (simp at *; omega))); conv => whnf))
    · rename_i g1 g2 g3
      have g2 : ¬ l.getD i 0 < 0 := g2
      have h : ∃ j, j < i ∧ l.getD j 0 = ((l.getD i 0).toNat : Int) := h
      refine (decide_eq_false fun hR => ?_).symm
      obtain ⟨j, hj, he⟩ := h
      exact (hR i (by omega)).2 j hj (by omega)
    · rename_i g1 g2 g3
      have g2 : ¬ l.getD i 0 < 0 := g2
      have g3 : ¬ (l.length : Int) ≤ l.getD i 0 := g3
      have h : ¬ ∃ j, j < i ∧ l.getD j 0 = ((l.getD i 0).toNat : Int) := h
      refine ⟨i + 1, ⟨by omega, fun k hk => ?_⟩, (by show l.length - (i + 1) < l.length - i; omega), ?_⟩
      · rcases Nat.lt_or_ge k i with hk' | hk'
        · exact hinv k hk'
        · have : k = i := by omega
          subst this
          exact ⟨by omega, fun j hj he => h ⟨j, hj, by omega⟩⟩
      · conv => whnf
        repeat (first | exact rfl | exact trivial | exact Or.inl (fun _ _ => rfl) | exact (fun _ => rfl) | exact (fun _ _ => rfl) | exact Or.inl (fun _ hi => absurd hi (Nat.not_lt_zero _)) | (refine And.intro rfl ?_; conv => whnf) | (refine And.intro (Or.inl (fun _ _ => rfl)) ?_; conv => whnf) | (refine And.intro (fun _ => rfl) ?_; conv => whnf) | (refine And.intro (fun _ _ => rfl) ?_; conv => whnf) | (refine And.intro ?_ ?_; rotate_left; conv => whnf))
        · refine Or.inr fun k hk => ?_
          have hn : ((l.getD i 0).toNat : Int) = l.getD i 0 := by omega
          show andL (fitA.fitL 4 0 (updRow (metR l i) (l.getD i 0).toNat [.bool true] k) (metR l (i + 1) k))
          have key : (decide (∃ j, j < i + 1 ∧ l.getD j 0 = (k : Int))) = (decide (∃ j, j < i ∧ l.getD j 0 = (k : Int)) || decide (l.getD i 0 = (k : Int))) := by
            rw [← Bool.decide_or]
            apply decide_eq_decide.2
            constructor
            · rintro ⟨j, h1, h2⟩
              rcases Nat.lt_or_ge j i with h3 | h3
              · exact .inl ⟨j, h3, h2⟩
              · have : j = i := by omega
                subst this; exact .inr h2
            · rintro (⟨j, h1, h2⟩ | h2)
              · exact ⟨j, by omega, h2⟩
              · exact ⟨i, by omega, h2⟩
          simp only [updRow, metR, key]
          split
          · rename_i hkk
            have : l.getD i 0 = (k : Int) := by omega
            rw [decide_eq_true this, Bool.or_true]
            exact rfl
          · rename_i hkk
            have : ¬ l.getD i 0 = (k : Int) := by omega
            rw [decide_eq_false this, Bool.or_false]
            exact rfl
    · rename_i g1 g2
      have h : (l.length : Int) ≤ l.getD i 0 := h
      exact (decide_eq_false fun hR => by have := (hR i (by omega)).1; omega).symm
    · rename_i g1
      have h : l.getD i 0 < 0 := h
      exact (decide_eq_false fun hR => by have := (hR i (by omega)).1; omega).symm
    · exact (decide_eq_true fun k hk => hinv k (by omega)).symm
end Go.Proofs.Ytfhdmhoeopbhnaa
set_option linter.unusedSimpArgs false
namespace Go.Proofs.Ytfhdmhoeopbhnaa
open Go.Proofs.Ytfhdmhoeopbhnaa.Am
variable {G : GInv}
def cmpI (a b : Int) : Int := if a < b then -1 else if b < a then 1 else 0
theorem isNaN_c (a : Int) : ACalls Try.prog G 110 [.int .i64 a] (.sb false) := by
  refine ACalls.of_WA ttok Try.func110 rfl rfl _ rfl ?_
  conv => whnf
  repeat' (first | refine WA_seq ?_ | (refine WA_region ttok ?_; conv => whnf) | (refine WA_draw ttok mixed ?_; conv => whnf) | (refine WA_cond ?_; conv => whnf) | refine WA_block ?_ | (refine WA_skip ?_; conv => whnf) | (refine WA_exit ?_; conv => whnf) | (refine WA_ret ?_; conv => whnf) | (refine And.intro (fun h => ?_) (fun h => ?_) <;> (try simp only [brsA] at h) <;> conv => whnf) | (refine WR_fit ?_ ?_; (focus (first | exact wr_i64 (by omega) | exact wr_u64 (by omega) | exact wr_u8 (by omega) | exact wr_i32 (by omega) | exact wr_u32 (by omega))); conv => whnf) | (refine WR_wrap ?_; conv => whnf) | (refine And.intro (a := indepB _ _ = true) ?_ ?_; (focus kernel_rfl); conv => whnf) | (refine And.intro rfl ?_; conv => whnf) | (refine And.intro ?_ ?_; (focus (first | omega | (simp at *; omega))); conv => whnf))
  all_goals simp_all
theorem compare_c (a b : Int) : ACalls Try.prog G 80 [.int .i64 a, .int .i64 b] (.int .i64 (cmpI a b)) := by
  refine ACalls.of_WA ttok Try.func80 rfl rfl _ rfl ?_
  conv => whnf
  repeat' (first | refine WA_seq ?_ | (refine WA_region ttok ?_; conv => whnf) | (refine WA_draw ttok mixed ?_; conv => whnf) | (refine WA_cond ?_; conv => whnf) | refine WA_block ?_ | (refine WA_skip ?_; conv => whnf) | (refine WA_exit ?_; conv => whnf) | (refine WA_ret ?_; conv => whnf) | (refine And.intro (fun h => ?_) (fun h => ?_) <;> (try simp only [brsA] at h) <;> conv => whnf) | (refine Or.inl ?_; (conv => whnf); refine Exists.intro _ (And.intro (isNaN_c _) ?_); conv => whnf) | (refine Or.inr (Or.inr (Or.inl ?_)); (conv => whnf); refine Exists.intro _ (And.intro (isNaN_c _) ?_); conv => whnf) | (refine Exists.intro _ (And.intro (isNaN_c _) ?_); conv => whnf) | (refine WR_fit ?_ ?_; (focus (first | exact wr_i64 (by omega) | exact wr_u64 (by omega) | exact wr_u8 (by omega) | exact wr_i32 (by omega) | exact wr_u32 (by omega))); conv => whnf) | (refine WR_wrap ?_; conv => whnf) | (refine And.intro (a := indepB _ _ = true) ?_ ?_; (focus kernel_rfl); conv => whnf) | (refine And.intro rfl ?_; conv => whnf) | (refine And.intro ?_ ?_; (focus (first | omega | (simp at *; omega))); conv => whnf))
  all_goals simp only [cmpI]
  all_goals first | contradiction | (split <;> first | rfl | omega | (split <;> first | rfl | omega)) | skip
/-- The first number that is not nought. -/
def firstNZ : List Int → Int
  | [] => 0
  | x :: xs => if x = 0 then firstNZ xs else x
theorem firstNZ_drop (l : List Int) : ∀ i, i ≤ l.length → (∀ k, k < i → l.getD k 0 = 0) → firstNZ l = firstNZ (l.drop i)
  | 0, _, _ => by simp
  | i + 1, h, hz => by
    rw [firstNZ_drop l i (by omega) (fun k hk => hz k (by omega))]
    have h0 := hz i (by omega)
    rw [List.drop_eq_getElem_cons (show i < l.length by omega)]
    rw [List.getD_eq_getElem?_getD, List.getElem?_eq_getElem (show i < l.length by omega)] at h0
    simp only [Option.getD_some] at h0
    simp [firstNZ, h0]
theorem or_c (l : List Int) (hl : l.length ≤ 1000000) : ACalls Try.prog G 79 [intsA l] (.int .i64 (firstNZ l)) := by
  refine ACalls.of_WA ttok Try.func79 rfl rfl _ rfl ?_
  conv => whnf
  repeat' (first | refine WA_seq ?_ | (refine WA_region ttok ?_; conv => whnf) | (refine WA_draw ttok mixed ?_; conv => whnf) | (refine WA_cond ?_; conv => whnf) | refine WA_block ?_ | (refine WA_skip ?_; conv => whnf) | (refine WA_exit ?_; conv => whnf) | (refine WA_ret ?_; conv => whnf) | (refine And.intro (fun h => ?_) (fun h => ?_) <;> (try simp only [brsA] at h) <;> conv => whnf) | (refine WR_fit ?_ ?_; (focus (first | exact wr_i64 (by omega) | exact wr_u64 (by omega) | exact wr_u8 (by omega) | exact wr_i32 (by omega) | exact wr_u32 (by omega))); conv => whnf) | (refine WR_wrap ?_; conv => whnf) | (refine And.intro (a := indepB _ _ = true) ?_ ?_; (focus kernel_rfl); conv => whnf) | (refine And.intro rfl ?_; conv => whnf) | (refine And.intro ?_ ?_; (focus (first | omega | (simp at *; omega))); conv => whnf))
  refine WA_loopI (fun i : Nat => i ≤ l.length ∧ ∀ k, k < i → l.getD k 0 = 0) (fun i => [(8, .int .i64 (i : Int))]) (fun _ => []) (fun i => l.length - i) 0 ⟨by omega, fun k hk => by omega⟩ ?_ ?_
  · conv => whnf
    repeat (first | exact rfl | exact trivial | exact Or.inl (fun _ _ => rfl) | exact (fun _ => rfl) | exact (fun _ _ => rfl) | exact Or.inl (fun _ hi => absurd hi (Nat.not_lt_zero _)) | (refine And.intro rfl ?_; conv => whnf) | (refine And.intro (Or.inl (fun _ _ => rfl)) ?_; conv => whnf) | (refine And.intro (fun _ => rfl) ?_; conv => whnf) | (refine And.intro (fun _ _ => rfl) ?_; conv => whnf) | (refine And.intro ?_ ?_; rotate_left; conv => whnf))
  · rintro i ⟨hi, hz⟩
    conv => whnf
    repeat' (first | refine WA_seq ?_ | (refine WA_region ttok ?_; conv => whnf) | (refine WA_draw ttok mixed ?_; conv => whnf) | (refine WA_cond ?_; conv => whnf) | refine WA_block ?_ | (refine WA_skip ?_; conv => whnf) | (refine WA_exit ?_; conv => whnf) | (refine WA_ret ?_; conv => whnf) | (refine And.intro (fun h => ?_) (fun h => ?_) <;> (try simp only [brsA] at h) <;> conv => whnf) | (refine WR_fit ?_ ?_; (focus (first | exact wr_i64 (by omega) | exact wr_u64 (by omega) | exact wr_u8 (by omega) | exact wr_i32 (by omega) | exact wr_u32 (by omega))); conv => whnf) | (refine WR_wrap ?_; conv => whnf) | (refine And.intro (a := indepB _ _ = true) ?_ ?_; (focus kernel_rfl); conv => whnf) | (refine And.intro rfl ?_; conv => whnf) | (refine And.intro ?_ ?_; (focus (first | omega | (simp at *; omega))); conv => whnf))
    · have h : ¬ l.getD i 0 = 0 := h
      rw [firstNZ_drop l i (by omega) hz, List.drop_eq_getElem_cons (show i < l.length by omega)]
      rw [List.getD_eq_getElem?_getD, List.getElem?_eq_getElem (show i < l.length by omega)] at h
      simp only [Option.getD_some] at h
      simp [firstNZ, h]
      simp [show i < l.length by omega]
    · have h : l.getD i 0 = 0 := h
      refine ⟨i + 1, ⟨by omega, fun k hk => ?_⟩, (by show l.length - (i + 1) < l.length - i; omega), ?_⟩
      · rcases Nat.lt_or_ge k i with h' | h'
        · exact hz k h'
        · have : k = i := by omega
          subst this; omega
      · conv => whnf
        repeat (first | exact rfl | exact trivial | exact Or.inl (fun _ _ => rfl) | exact (fun _ => rfl) | exact (fun _ _ => rfl) | exact Or.inl (fun _ hi => absurd hi (Nat.not_lt_zero _)) | (refine And.intro rfl ?_; conv => whnf) | (refine And.intro (Or.inl (fun _ _ => rfl)) ?_; conv => whnf) | (refine And.intro (fun _ => rfl) ?_; conv => whnf) | (refine And.intro (fun _ _ => rfl) ?_; conv => whnf) | (refine And.intro ?_ ?_; rotate_left; conv => whnf))
    · rw [firstNZ_drop l i (by omega) hz, List.drop_of_length_le (by omega)]
      rfl
end Go.Proofs.Ytfhdmhoeopbhnaa
set_option linter.unusedSimpArgs false
namespace Go.Proofs.Ytfhdmhoeopbhnaa
open Go.Proofs.Ytfhdmhoeopbhnaa.Am
variable {G : GInv}
def ordI (x : Lk) (a b : Int) : Int := firstNZ [cmpI x.f a, cmpI x.t b]
theorem mixed : Try.prog.follows .mixedOrders = true := by kernel_rfl
set_option maxRecDepth 100000 in
theorem order_c (x : Lk) (a b : Int) : ACalls Try.prog G 97 [.agg (lkA x), .agg [.int .i64 a, .int .i64 b]] (.int .i64 (ordI x a b)) := by
  refine ACalls.of_WA ttok Try.func97 rfl rfl _ rfl ?_
  conv => whnf
  repeat' (first | refine WA_seq ?_ | (refine WA_region ttok ?_; conv => whnf) | (refine WA_draw ttok mixed ?_; conv => whnf) | (refine WA_cond ?_; conv => whnf) | refine WA_block ?_ | (refine WA_skip ?_; conv => whnf) | (refine WA_exit ?_; conv => whnf) | (refine WA_ret ?_; conv => whnf) | (refine And.intro (fun h => ?_) (fun h => ?_) <;> (try simp only [brsA] at h) <;> conv => whnf) | (refine WR_fit ?_ ?_; (focus (first | exact wr_i64 (by omega) | exact wr_u64 (by omega) | exact wr_u8 (by omega) | exact wr_i32 (by omega) | exact wr_u32 (by omega))); conv => whnf) | (refine WR_wrap ?_; conv => whnf) | (refine And.intro (a := indepB _ _ = true) ?_ ?_; (focus kernel_rfl); conv => whnf) | (refine And.intro rfl ?_; conv => whnf) | (refine And.intro ?_ ?_; (focus (first | omega | (simp at *; omega))); conv => whnf))
  repeat' (first | refine WA_seq ?_ | (refine WA_region ttok ?_; conv => whnf) | (refine WA_draw ttok mixed ?_; conv => whnf) | (refine WA_cond ?_; conv => whnf) | refine WA_block ?_ | (refine WA_skip ?_; conv => whnf) | (refine WA_exit ?_; conv => whnf) | (refine WA_ret ?_; conv => whnf) | (refine And.intro (fun h => ?_) (fun h => ?_) <;> (try simp only [brsA] at h) <;> conv => whnf) | (refine Or.inl ?_; (conv => whnf); refine Exists.intro _ (And.intro (compare_c _ _) ?_); conv => whnf) | (refine Or.inr (Or.inr (Or.inl ?_)); (conv => whnf); refine Exists.intro _ (And.intro (compare_c _ _) ?_); conv => whnf) | (refine Exists.intro _ (And.intro (compare_c _ _) ?_); conv => whnf) | (refine WR_fit ?_ ?_; (focus (first | exact wr_i64 (by omega) | exact wr_u64 (by omega) | exact wr_u8 (by omega) | exact wr_i32 (by omega) | exact wr_u32 (by omega))); conv => whnf) | (refine WR_wrap ?_; conv => whnf) | (refine And.intro (a := indepB _ _ = true) ?_ ?_; (focus kernel_rfl); conv => whnf) | (refine And.intro rfl ?_; conv => whnf) | (refine And.intro ?_ ?_; (focus (first | omega | (simp at *; omega))); conv => whnf))
  refine Or.inl ?_
  conv => whnf
  refine ⟨_, (or_c [cmpI x.f a, cmpI x.t b] (by simp)).fit ?_, rfl, ?_⟩
  · conv => whnf
    refine ⟨rfl, Or.inl fun i hi => ?_⟩
    match i, hi with
    | 0, _ => rfl
    | 1, _ => rfl
  · conv => whnf
    repeat' (first | refine WA_seq ?_ | (refine WA_region ttok ?_; conv => whnf) | (refine WA_draw ttok mixed ?_; conv => whnf) | (refine WA_cond ?_; conv => whnf) | refine WA_block ?_ | (refine WA_skip ?_; conv => whnf) | (refine WA_exit ?_; conv => whnf) | (refine WA_ret ?_; conv => whnf) | (refine And.intro (fun h => ?_) (fun h => ?_) <;> (try simp only [brsA] at h) <;> conv => whnf) | (refine WR_fit ?_ ?_; (focus (first | exact wr_i64 (by omega) | exact wr_u64 (by omega) | exact wr_u8 (by omega) | exact wr_i32 (by omega) | exact wr_u32 (by omega))); conv => whnf) | (refine WR_wrap ?_; conv => whnf) | (refine And.intro (a := indepB _ _ = true) ?_ ?_; (focus kernel_rfl); conv => whnf) | (refine And.intro rfl ?_; conv => whnf) | (refine And.intro ?_ ?_; (focus (first | omega | (simp at *; omega))); conv => whnf))
    rfl
end Go.Proofs.Ytfhdmhoeopbhnaa
set_option linter.unusedSimpArgs false
namespace Go.Proofs.Ytfhdmhoeopbhnaa
open Go.Proofs.Ytfhdmhoeopbhnaa.Am
variable {G : GInv}
/-- The first place that a law holds at, or -1. -/
def firstAt (p : Nat → Bool) : Nat → Nat → Int
  | 0, _ => -1
  | n + 1, i => if p i = true then (i : Int) else firstAt p n (i + 1)
def isL (ls : List Lk) (a b : Int) (i : Nat) : Bool := decide ((ls.getD i default).f = a) && decide ((ls.getD i default).t = b)
theorem firstAt_step (p : Nat → Bool) {n i : Nat} (h : i < n) : firstAt p (n - i) i = if p i = true then (i : Int) else firstAt p (n - (i + 1)) (i + 1) := by
  rw [show n - i = (n - (i + 1)) + 1 by omega, firstAt]
set_option maxRecDepth 100000 in
theorem refLink_c (ls : List Lk) (a b : Int) (hl : ls.length ≤ 1000000) : ACalls Try.prog G 18 [lksA ls, .int .i64 a, .int .i64 b] (.int .i64 (firstAt (isL ls a b) ls.length 0)) := by
  refine ACalls.of_WA ttok Try.func18 rfl rfl _ rfl ?_
  conv => whnf
  repeat' (first | refine WA_seq ?_ | (refine WA_region ttok ?_; conv => whnf) | (refine WA_draw ttok mixed ?_; conv => whnf) | (refine WA_cond ?_; conv => whnf) | refine WA_block ?_ | (refine WA_skip ?_; conv => whnf) | (refine WA_exit ?_; conv => whnf) | (refine WA_ret ?_; conv => whnf) | (refine And.intro (fun h => ?_) (fun h => ?_) <;> (try simp only [brsA] at h) <;> conv => whnf) | (refine WR_fit ?_ ?_; (focus (first | exact wr_i64 (by omega) | exact wr_u64 (by omega) | exact wr_u8 (by omega) | exact wr_i32 (by omega) | exact wr_u32 (by omega))); conv => whnf) | (refine WR_wrap ?_; conv => whnf) | (refine And.intro (a := indepB _ _ = true) ?_ ?_; (focus kernel_rfl); conv => whnf) | (refine And.intro rfl ?_; conv => whnf) | (refine And.intro ?_ ?_; (focus (first | omega | (simp at *; omega))); conv => whnf))
  refine WA_loopI (fun i : Nat => i ≤ ls.length ∧ firstAt (isL ls a b) ls.length 0 = firstAt (isL ls a b) (ls.length - i) i) (fun i => [(7, .int .i64 (i : Int))]) (fun _ => []) (fun i => ls.length - i) 0 ⟨by omega, rfl⟩ ?_ ?_
  · conv => whnf
    repeat (first | exact rfl | exact trivial | exact Or.inl (fun _ _ => rfl) | exact (fun _ => rfl) | exact (fun _ _ => rfl) | exact Or.inl (fun _ hi => absurd hi (Nat.not_lt_zero _)) | (refine And.intro rfl ?_; conv => whnf) | (refine And.intro (Or.inl (fun _ _ => rfl)) ?_; conv => whnf) | (refine And.intro (fun _ => rfl) ?_; conv => whnf) | (refine And.intro (fun _ _ => rfl) ?_; conv => whnf) | (refine And.intro ?_ ?_; rotate_left; conv => whnf))
  · rintro i ⟨hi, he⟩
    conv => whnf
    repeat' (first | refine WA_seq ?_ | (refine WA_region ttok ?_; conv => whnf) | (refine WA_draw ttok mixed ?_; conv => whnf) | (refine WA_cond ?_; conv => whnf) | refine WA_block ?_ | (refine WA_skip ?_; conv => whnf) | (refine WA_exit ?_; conv => whnf) | (refine WA_ret ?_; conv => whnf) | (refine And.intro (fun h => ?_) (fun h => ?_) <;> (try simp only [brsA] at h) <;> conv => whnf) | (refine WR_fit ?_ ?_; (focus (first | exact wr_i64 (by omega) | exact wr_u64 (by omega) | exact wr_u8 (by omega) | exact wr_i32 (by omega) | exact wr_u32 (by omega))); conv => whnf) | (refine WR_wrap ?_; conv => whnf) | (refine And.intro (a := indepB _ _ = true) ?_ ?_; (focus kernel_rfl); conv => whnf) | (refine And.intro rfl ?_; conv => whnf) | (refine And.intro ?_ ?_; (focus (first | omega | (simp at *; omega))); conv => whnf))
    · rename_i g1 g2
      have g2 : (ls.getD i default).f = a := g2
      have h : (ls.getD i default).t = b := h
      rw [he, firstAt_step _ (show i < ls.length by omega), if_pos (by simp only [isL, g2, h]; simp)]
    · rename_i g1 g2
      have g2 : (ls.getD i default).f = a := g2
      have h : ¬ (ls.getD i default).t = b := h
      refine ⟨i + 1, ⟨by omega, by rw [he, firstAt_step _ (show i < ls.length by omega), if_neg (by simp only [isL, h]; simp)]⟩, (by show ls.length - (i + 1) < ls.length - i; omega), ?_⟩
      conv => whnf
      repeat (first | exact rfl | exact trivial | exact Or.inl (fun _ _ => rfl) | exact (fun _ => rfl) | exact (fun _ _ => rfl) | exact Or.inl (fun _ hi => absurd hi (Nat.not_lt_zero _)) | (refine And.intro rfl ?_; conv => whnf) | (refine And.intro (Or.inl (fun _ _ => rfl)) ?_; conv => whnf) | (refine And.intro (fun _ => rfl) ?_; conv => whnf) | (refine And.intro (fun _ _ => rfl) ?_; conv => whnf) | (refine And.intro ?_ ?_; rotate_left; conv => whnf))
    · rename_i g1
      have h : ¬ (ls.getD i default).f = a := h
      refine ⟨i + 1, ⟨by omega, by rw [he, firstAt_step _ (show i < ls.length by omega), if_neg (by simp only [isL, h]; simp)]⟩, (by show ls.length - (i + 1) < ls.length - i; omega), ?_⟩
      conv => whnf
      repeat (first | exact rfl | exact trivial | exact Or.inl (fun _ _ => rfl) | exact (fun _ => rfl) | exact (fun _ _ => rfl) | exact Or.inl (fun _ hi => absurd hi (Nat.not_lt_zero _)) | (refine And.intro rfl ?_; conv => whnf) | (refine And.intro (Or.inl (fun _ _ => rfl)) ?_; conv => whnf) | (refine And.intro (fun _ => rfl) ?_; conv => whnf) | (refine And.intro (fun _ _ => rfl) ?_; conv => whnf) | (refine And.intro ?_ ?_; rotate_left; conv => whnf))
    · rw [he, show ls.length - i = 0 by omega]; rfl
end Go.Proofs.Ytfhdmhoeopbhnaa
set_option linter.unusedSimpArgs false
namespace Go.Proofs.Ytfhdmhoeopbhnaa
open Go.Proofs.Ytfhdmhoeopbhnaa.Am
variable {G : GInv}
/-- Binary search: how far the law holds. -/
def bsF (p : Nat → Bool) : Nat → Nat → Nat → Nat
  | 0, lo, _ => lo
  | f + 1, lo, hi => if lo < hi then (if p ((lo + hi) / 2) = true then bsF p f ((lo + hi) / 2 + 1) hi else bsF p f lo ((lo + hi) / 2)) else lo
theorem bsF_fuel (p : Nat → Bool) : ∀ (f g lo hi : Nat), hi - lo ≤ f → hi - lo ≤ g → bsF p f lo hi = bsF p g lo hi
  | 0, 0, _, _, _, _ => rfl
  | 0, g + 1, lo, hi, h, _ => by rw [bsF, bsF, if_neg (by omega)]
  | f + 1, 0, lo, hi, _, h => by rw [bsF, bsF, if_neg (by omega)]
  | f + 1, g + 1, lo, hi, h1, h2 => by
    rw [bsF, bsF]
    split
    · split
      · exact bsF_fuel p f g _ _ (by omega) (by omega)
      · exact bsF_fuel p f g _ _ (by omega) (by omega)
    · rfl
theorem bsF_step (p : Nat → Bool) {lo hi : Nat} (h : lo < hi) : bsF p (hi - lo) lo hi = if p ((lo + hi) / 2) = true then bsF p (hi - ((lo + hi) / 2 + 1)) ((lo + hi) / 2 + 1) hi else bsF p ((lo + hi) / 2 - lo) lo ((lo + hi) / 2) := by
  rw [show hi - lo = (hi - lo - 1) + 1 by omega, bsF, if_pos h]
  split
  · exact bsF_fuel p _ _ _ _ (by omega) (by omega)
  · exact bsF_fuel p _ _ _ _ (by omega) (by omega)
def lessL (ls : List Lk) (a b : Int) (i : Nat) : Bool := decide (ordI (ls.getD i default) a b < 0)
def bsL (ls : List Lk) (a b : Int) : Nat := bsF (lessL ls a b) ls.length 0 ls.length
set_option maxRecDepth 100000 in
theorem bsearch_c (ls : List Lk) (a b : Int) (hl : ls.length ≤ 1000000) : ACalls Try.prog G 96 [lksA ls, .agg [.int .i64 a, .int .i64 b], .fn 97 []]
    (.tup [.int .i64 (bsL ls a b), .sb (decide (bsL ls a b < ls.length) && decide (ordI (ls.getD (bsL ls a b) default) a b = 0))]) := by
  refine ACalls.of_WA ttok Try.func96 rfl rfl _ rfl ?_
  conv => whnf
  repeat' (first | refine WA_seq ?_ | (refine WA_region ttok ?_; conv => whnf) | (refine WA_draw ttok mixed ?_; conv => whnf) | (refine WA_cond ?_; conv => whnf) | refine WA_block ?_ | (refine WA_skip ?_; conv => whnf) | (refine WA_exit ?_; conv => whnf) | (refine WA_ret ?_; conv => whnf) | (refine And.intro (fun h => ?_) (fun h => ?_) <;> (try simp only [brsA] at h) <;> conv => whnf) | (refine Or.inl ?_; (conv => whnf); refine Exists.intro _ (And.intro (order_c _ _ _) ?_); conv => whnf) | (refine Or.inr (Or.inr (Or.inl ?_)); (conv => whnf); refine Exists.intro _ (And.intro (order_c _ _ _) ?_); conv => whnf) | (refine Exists.intro _ (And.intro (order_c _ _ _) ?_); conv => whnf) | (refine WR_fit ?_ ?_; (focus (first | exact wr_i64 (by omega) | exact wr_u64 (by omega) | exact wr_u8 (by omega) | exact wr_i32 (by omega) | exact wr_u32 (by omega))); conv => whnf) | (refine WR_wrap ?_; conv => whnf) | (refine And.intro (a := indepB _ _ = true) ?_ ?_; (focus kernel_rfl); conv => whnf) | (refine And.intro rfl ?_; conv => whnf) | (refine And.intro ?_ ?_; (focus (first | omega | (simp at *; omega))); conv => whnf))
  refine WA_loopI (fun x : Nat × Nat => x.1 ≤ x.2 ∧ x.2 ≤ ls.length ∧ bsF (lessL ls a b) (x.2 - x.1) x.1 x.2 = bsL ls a b) (fun x => match x with | (lo, hi) => [(9, .int .i64 (lo : Int)), (10, .int .i64 (hi : Int))]) (fun _ => [.box 144 [.int .i64 a, .int .i64 b]]) (fun x => x.2 - x.1) (0, ls.length) ⟨by simp, by simp, rfl⟩ ?_ ?_
  · conv => whnf
    repeat (first | exact rfl | exact trivial | exact Or.inl (fun _ _ => rfl) | exact (fun _ => rfl) | exact (fun _ _ => rfl) | exact Or.inl (fun _ hi => absurd hi (Nat.not_lt_zero _)) | (refine And.intro rfl ?_; conv => whnf) | (refine And.intro (Or.inl (fun _ _ => rfl)) ?_; conv => whnf) | (refine And.intro (fun _ => rfl) ?_; conv => whnf) | (refine And.intro (fun _ _ => rfl) ?_; conv => whnf) | (refine And.intro ?_ ?_; rotate_left; conv => whnf))
  · rintro ⟨lo, hi⟩ ⟨h1, h2, h3⟩
    have h1 : lo ≤ hi := h1
    have h2 : hi ≤ ls.length := h2
    have h3 : bsF (lessL ls a b) (hi - lo) lo hi = bsL ls a b := h3
    have hm : ((lo : Int) + (hi : Int)).fdiv (2 ^ (min (Int.toNat 1) IntKind.u64.bits)) = (((lo + hi) / 2 : Nat) : Int) := by
      have e2 : (2 : Int) ^ (min (Int.toNat 1) IntKind.u64.bits) = 2 := by decide
      rw [e2, Int.fdiv_eq_ediv_of_nonneg _ (by decide)]
      omega
    conv => whnf
    repeat (first | refine WA_seq ?_ | (refine WA_region ttok ?_; conv => whnf) | (refine WA_draw ttok mixed ?_; conv => whnf) | (refine WA_cond ?_; conv => whnf) | refine WA_block ?_ | (refine WA_skip ?_; conv => whnf) | (refine WA_exit ?_; conv => whnf) | (refine WA_ret ?_; conv => whnf))
    refine ⟨fun h => ?_, fun h => ?_⟩
    · have h := of_decide_eq_true h
      have hlt : lo < hi := by omega
      conv => whnf
      refine WA_skip ?_
      conv => whnf
      refine WA_block ?_
      refine WA_seq ?_
      refine WA_region ttok ?_
      conv => whnf
      refine WR_fit (wr_i64 (by omega)) ?_
      conv => whnf
      refine WR_fit (wr_u64 (by omega)) ?_
      conv => whnf
      refine ⟨by decide, ?_⟩
      conv => whnf
      rw [hm]
      repeat' (first | refine WA_seq ?_ | (refine WA_region ttok ?_; conv => whnf) | (refine WA_draw ttok mixed ?_; conv => whnf) | (refine WA_cond ?_; conv => whnf) | refine WA_block ?_ | (refine WA_skip ?_; conv => whnf) | (refine WA_exit ?_; conv => whnf) | (refine WA_ret ?_; conv => whnf) | (refine And.intro (fun h => ?_) (fun h => ?_) <;> (try simp only [brsA] at h) <;> conv => whnf) | (refine Or.inl ?_; (conv => whnf); refine Exists.intro _ (And.intro (order_c _ _ _) ?_); conv => whnf) | (refine Or.inr (Or.inr (Or.inl ?_)); (conv => whnf); refine Exists.intro _ (And.intro (order_c _ _ _) ?_); conv => whnf) | (refine Exists.intro _ (And.intro (order_c _ _ _) ?_); conv => whnf) | (refine WR_fit ?_ ?_; (focus (first | exact wr_i64 (by omega) | exact wr_u64 (by omega) | exact wr_u8 (by omega) | exact wr_i32 (by omega) | exact wr_u32 (by omega))); conv => whnf) | (refine WR_wrap ?_; conv => whnf) | (refine And.intro (a := indepB _ _ = true) ?_ ?_; (focus kernel_rfl); conv => whnf) | (refine And.intro rfl ?_; conv => whnf) | (refine And.intro ?_ ?_; (focus (first | omega | (simp at *; omega))); conv => whnf))
      · have h : ordI (ls.getD ((lo + hi) / 2) default) a b < 0 := h
        refine ⟨((lo + hi) / 2 + 1, hi), ⟨?_, h2, ?_⟩, ?_, ?_⟩
        · show (lo + hi) / 2 + 1 ≤ hi; omega
        · show bsF (lessL ls a b) (hi - ((lo + hi) / 2 + 1)) ((lo + hi) / 2 + 1) hi = bsL ls a b
          rw [← h3, bsF_step _ hlt, if_pos (by simp only [lessL, h, decide_true])]
        · show hi - ((lo + hi) / 2 + 1) < hi - lo; omega
        · conv => whnf
          repeat (first | exact rfl | exact trivial | exact Or.inl (fun _ _ => rfl) | exact (fun _ => rfl) | exact (fun _ _ => rfl) | exact Or.inl (fun _ hi => absurd hi (Nat.not_lt_zero _)) | (refine And.intro rfl ?_; conv => whnf) | (refine And.intro (Or.inl (fun _ _ => rfl)) ?_; conv => whnf) | (refine And.intro (fun _ => rfl) ?_; conv => whnf) | (refine And.intro (fun _ _ => rfl) ?_; conv => whnf) | (refine And.intro ?_ ?_; rotate_left; conv => whnf))
      · have h : ¬ ordI (ls.getD ((lo + hi) / 2) default) a b < 0 := h
        refine ⟨(lo, (lo + hi) / 2), ⟨?_, ?_, ?_⟩, ?_, ?_⟩
        · show lo ≤ (lo + hi) / 2; omega
        · show (lo + hi) / 2 ≤ ls.length; omega
        · show bsF (lessL ls a b) ((lo + hi) / 2 - lo) lo ((lo + hi) / 2) = bsL ls a b
          rw [← h3, bsF_step _ hlt, if_neg (by simp only [lessL, h, decide_false]; simp)]
        · show (lo + hi) / 2 - lo < hi - lo; omega
        · conv => whnf
          repeat (first | exact rfl | exact trivial | exact Or.inl (fun _ _ => rfl) | exact (fun _ => rfl) | exact (fun _ _ => rfl) | exact Or.inl (fun _ hi => absurd hi (Nat.not_lt_zero _)) | (refine And.intro rfl ?_; conv => whnf) | (refine And.intro (Or.inl (fun _ _ => rfl)) ?_; conv => whnf) | (refine And.intro (fun _ => rfl) ?_; conv => whnf) | (refine And.intro (fun _ _ => rfl) ?_; conv => whnf) | (refine And.intro ?_ ?_; rotate_left; conv => whnf))
    · have h := of_decide_eq_false h
      have he : lo = bsL ls a b := by
        rw [← h3, show hi - lo = 0 by omega]; rfl
      conv => whnf
      repeat' (first | refine WA_seq ?_ | (refine WA_region ttok ?_; conv => whnf) | (refine WA_draw ttok mixed ?_; conv => whnf) | (refine WA_cond ?_; conv => whnf) | refine WA_block ?_ | (refine WA_skip ?_; conv => whnf) | (refine WA_exit ?_; conv => whnf) | (refine WA_ret ?_; conv => whnf) | (refine And.intro (fun h => ?_) (fun h => ?_) <;> (try simp only [brsA] at h) <;> conv => whnf) | (refine Or.inl ?_; (conv => whnf); refine Exists.intro _ (And.intro (order_c _ _ _) ?_); conv => whnf) | (refine Or.inr (Or.inr (Or.inl ?_)); (conv => whnf); refine Exists.intro _ (And.intro (order_c _ _ _) ?_); conv => whnf) | (refine Exists.intro _ (And.intro (order_c _ _ _) ?_); conv => whnf) | (refine WR_fit ?_ ?_; (focus (first | exact wr_i64 (by omega) | exact wr_u64 (by omega) | exact wr_u8 (by omega) | exact wr_i32 (by omega) | exact wr_u32 (by omega))); conv => whnf) | (refine WR_wrap ?_; conv => whnf) | (refine And.intro (a := indepB _ _ = true) ?_ ?_; (focus kernel_rfl); conv => whnf) | (refine And.intro rfl ?_; conv => whnf) | (refine And.intro ?_ ?_; (focus (first | omega | (simp at *; omega))); conv => whnf))
      · have hg : (ordI (ls.getD lo default) a b == 0) = decide (ordI (ls.getD lo default) a b = 0) := rfl
        have hd : decide (bsL ls a b < ls.length) = true := decide_eq_true (by omega)
        rw [hd, Bool.true_and, ← he]
        exact hg
      · have hd : decide (bsL ls a b < ls.length) = false := decide_eq_false (by omega)
        rw [hd, Bool.false_and]
end Go.Proofs.Ytfhdmhoeopbhnaa
set_option linter.unusedSimpArgs false
namespace Go.Proofs.Ytfhdmhoeopbhnaa
open Go.Proofs.Ytfhdmhoeopbhnaa.Am
variable {G : GInv}
def okL (n : Nat) (x : Lk) : Prop := (0 ≤ x.f ∧ x.f < n) ∧ (0 ≤ x.t ∧ x.t < n) ∧ x.f ≠ x.t ∧ 0 ≤ x.w ∧ x.w ≤ 1152921504606846976
instance (n : Nat) (x : Lk) : Decidable (okL n x) := inferInstanceAs (Decidable (_ ∧ _))
def okAt (n : Nat) (ls : List Lk) (k : Nat) : Prop := okL n (ls.getD k default) ∧ (0 < k → ordI (ls.getD (k - 1) default) (ls.getD k default).f (ls.getD k default).t < 0)
instance (n : Nat) (ls : List Lk) (k : Nat) : Decidable (okAt n ls k) := inferInstanceAs (Decidable (_ ∧ _))
def SortedP (n : Nat) (ls : List Lk) : Prop := ∀ k, k < ls.length → okAt n ls k
instance (n : Nat) (ls : List Lk) : Decidable (SortedP n ls) := inferInstanceAs (Decidable (∀ k, k < ls.length → _))
theorem find_c (ls : List Lk) (a b : Int) (hl : ls.length ≤ 1000000) : ACalls Try.prog G 56 [lksA ls, .int .i64 a, .int .i64 b]
    (.tup [.int .i64 (bsL ls a b), .sb (decide (bsL ls a b < ls.length) && decide (ordI (ls.getD (bsL ls a b) default) a b = 0))]) := by
  refine ACalls.of_WA ttok Try.func56 rfl rfl _ rfl ?_
  conv => whnf
  repeat' (first | refine WA_seq ?_ | (refine WA_region ttok ?_; conv => whnf) | (refine WA_draw ttok mixed ?_; conv => whnf) | (refine WA_cond ?_; conv => whnf) | refine WA_block ?_ | (refine WA_skip ?_; conv => whnf) | (refine WA_exit ?_; conv => whnf) | (refine WA_ret ?_; conv => whnf) | (refine And.intro (fun h => ?_) (fun h => ?_) <;> (try simp only [brsA] at h) <;> conv => whnf) | (refine Or.inl ?_; (conv => whnf); refine Exists.intro _ (And.intro (bsearch_c _ _ _ hl) ?_); conv => whnf) | (refine Or.inr (Or.inr (Or.inl ?_)); (conv => whnf); refine Exists.intro _ (And.intro (bsearch_c _ _ _ hl) ?_); conv => whnf) | (refine Exists.intro _ (And.intro (bsearch_c _ _ _ hl) ?_); conv => whnf) | (refine WR_fit ?_ ?_; (focus (first | exact wr_i64 (by omega) | exact wr_u64 (by omega) | exact wr_u8 (by omega) | exact wr_i32 (by omega) | exact wr_u32 (by omega))); conv => whnf) | (refine WR_wrap ?_; conv => whnf) | (refine And.intro (a := indepB _ _ = true) ?_ ?_; (focus kernel_rfl); conv => whnf) | (refine And.intro rfl ?_; conv => whnf) | (refine And.intro ?_ ?_; (focus (first | omega | (simp at *; omega))); conv => whnf))
set_option maxRecDepth 100000 in
theorem sorted_c (rk : List Int) (ls : List Lk) (hl : ls.length ≤ 1000000) : ACalls Try.prog G 58 [.agg [intsA rk, lksA ls]] (.sb (decide (SortedP rk.length ls))) := by
  refine ACalls.of_WA ttok Try.func58 rfl rfl _ rfl ?_
  conv => whnf
  repeat' (first | refine WA_seq ?_ | (refine WA_region ttok ?_; conv => whnf) | (refine WA_draw ttok mixed ?_; conv => whnf) | (refine WA_cond ?_; conv => whnf) | refine WA_block ?_ | (refine WA_skip ?_; conv => whnf) | (refine WA_exit ?_; conv => whnf) | (refine WA_ret ?_; conv => whnf) | (refine And.intro (fun h => ?_) (fun h => ?_) <;> (try simp only [brsA] at h) <;> conv => whnf) | (refine WR_fit ?_ ?_; (focus (first | exact wr_i64 (by omega) | exact wr_u64 (by omega) | exact wr_u8 (by omega) | exact wr_i32 (by omega) | exact wr_u32 (by omega))); conv => whnf) | (refine WR_wrap ?_; conv => whnf) | (refine And.intro (a := indepB _ _ = true) ?_ ?_; (focus kernel_rfl); conv => whnf) | (refine And.intro rfl ?_; conv => whnf) | (refine And.intro ?_ ?_; (focus (first | omega | (simp at *; omega))); conv => whnf))
  refine WA_loopI (fun i : Nat => i ≤ ls.length ∧ ∀ k, k < i → okAt rk.length ls k) (fun i => [(8, .int .i64 (i : Int))]) (fun _ => [.box 25 [intsA rk, lksA ls]]) (fun i => ls.length - i) 0 ⟨by omega, fun k hk => by omega⟩ ?_ ?_
  · conv => whnf
    repeat (first | exact rfl | exact trivial | exact Or.inl (fun _ _ => rfl) | exact (fun _ => rfl) | exact (fun _ _ => rfl) | exact Or.inl (fun _ hi => absurd hi (Nat.not_lt_zero _)) | (refine And.intro rfl ?_; conv => whnf) | (refine And.intro (Or.inl (fun _ _ => rfl)) ?_; conv => whnf) | (refine And.intro (fun _ => rfl) ?_; conv => whnf) | (refine And.intro (fun _ _ => rfl) ?_; conv => whnf) | (refine And.intro ?_ ?_; rotate_left; conv => whnf))
  · rintro i ⟨hi, hinv⟩
    conv => whnf
    repeat' (first | refine WA_seq ?_ | (refine WA_region ttok ?_; conv => whnf) | (refine WA_draw ttok mixed ?_; conv => whnf) | (refine WA_cond ?_; conv => whnf) | refine WA_block ?_ | (refine WA_skip ?_; conv => whnf) | (refine WA_exit ?_; conv => whnf) | (refine WA_ret ?_; conv => whnf) | (refine And.intro (fun h => ?_) (fun h => ?_) <;> (try simp only [brsA] at h) <;> conv => whnf) | (refine Or.inl ?_; (conv => whnf); refine Exists.intro _ (And.intro (vertex_c _ _ _) ?_); conv => whnf) | (refine Or.inr (Or.inr (Or.inl ?_)); (conv => whnf); refine Exists.intro _ (And.intro (vertex_c _ _ _) ?_); conv => whnf) | (refine Exists.intro _ (And.intro (vertex_c _ _ _) ?_); conv => whnf) | (refine Or.inl ?_; (conv => whnf); refine Exists.intro _ (And.intro (order_c _ _ _) ?_); conv => whnf) | (refine Or.inr (Or.inr (Or.inl ?_)); (conv => whnf); refine Exists.intro _ (And.intro (order_c _ _ _) ?_); conv => whnf) | (refine Exists.intro _ (And.intro (order_c _ _ _) ?_); conv => whnf) | (refine WR_fit ?_ ?_; (focus (first | exact wr_i64 (by omega) | exact wr_u64 (by omega) | exact wr_u8 (by omega) | exact wr_i32 (by omega) | exact wr_u32 (by omega))); conv => whnf) | (refine WR_wrap ?_; conv => whnf) | (refine And.intro (a := indepB _ _ = true) ?_ ?_; (focus kernel_rfl); conv => whnf) | (refine And.intro rfl ?_; conv => whnf) | (refine And.intro ?_ ?_; (focus (first | omega | (simp at *; omega))); conv => whnf))
    all_goals (have e1 : ((i : Int) - 1).toNat = i - 1 := by omega)
    all_goals (try simp only [brsD] at *)
    all_goals (try simp only [e1] at *)
    all_goals try first
      | (refine (decide_eq_false fun hR => ?_).symm
         obtain ⟨⟨k1, k2, k3, k4, k5⟩, k6⟩ := hR i (by omega)
         first | omega | (have := k6 (by omega); omega))
      | (refine (decide_eq_true fun k hk => hinv k (by omega)).symm)
    all_goals
      refine ⟨i + 1, ⟨by omega, fun k hk => ?_⟩, (by show ls.length - (i + 1) < ls.length - i; omega), ?_⟩
      · rcases Nat.lt_or_ge k i with hk' | hk'
        · exact hinv k hk'
        · have : k = i := by omega
          subst this
          exact ⟨⟨by omega, by omega, by omega, by omega, by omega⟩, fun h0 => by omega⟩
      · conv => whnf
        repeat (first | exact rfl | exact trivial | exact Or.inl (fun _ _ => rfl) | exact (fun _ => rfl) | exact (fun _ _ => rfl) | exact Or.inl (fun _ hi => absurd hi (Nat.not_lt_zero _)) | (refine And.intro rfl ?_; conv => whnf) | (refine And.intro (Or.inl (fun _ _ => rfl)) ?_; conv => whnf) | (refine And.intro (fun _ => rfl) ?_; conv => whnf) | (refine And.intro (fun _ _ => rfl) ?_; conv => whnf) | (refine And.intro ?_ ?_; rotate_left; conv => whnf))
end Go.Proofs.Ytfhdmhoeopbhnaa
set_option linter.unusedSimpArgs false
namespace Go.Proofs.Ytfhdmhoeopbhnaa
open Go.Proofs.Ytfhdmhoeopbhnaa.Am
variable {G : GInv}
def lexLt (x : Lk) (a b : Int) : Prop := x.f < a ∨ (x.f = a ∧ x.t < b)
theorem ordI_eq (x : Lk) (a b : Int) : ordI x a b = if x.f < a then -1 else if a < x.f then 1 else if x.t < b then -1 else if b < x.t then 1 else 0 := by
  unfold ordI cmpI
  split
  · simp [firstNZ]
  · split
    · simp [firstNZ]
    · split
      · simp [firstNZ]
      · split <;> simp [firstNZ]
theorem ordI_neg (x : Lk) (a b : Int) : ordI x a b < 0 ↔ lexLt x a b := by
  rw [ordI_eq]; unfold lexLt
  repeat' split
  all_goals omega
theorem ordI_zero (x : Lk) (a b : Int) : ordI x a b = 0 ↔ x.f = a ∧ x.t = b := by
  rw [ordI_eq]
  repeat' split
  all_goals omega
theorem rising {n : Nat} {ls : List Lk} (hS : SortedP n ls) : ∀ i d, i + (d + 1) < ls.length → lexLt (ls.getD i default) (ls.getD (i + (d + 1)) default).f (ls.getD (i + (d + 1)) default).t
  | i, 0, h => by
    have := (hS (i + 1) h).2 (by omega)
    rw [ordI_neg] at this
    simpa using this
  | i, d + 1, h => by
    have h1 := rising hS i d (by omega)
    have h2 := (hS (i + (d + 1 + 1)) h).2 (by omega)
    rw [ordI_neg, show i + (d + 1 + 1) - 1 = i + (d + 1) by omega] at h2
    unfold lexLt at *
    omega
theorem bsF_spec (p : Nat → Bool) (n : Nat) (hp : ∀ i j, i ≤ j → j < n → p j = true → p i = true) : ∀ (f lo hi : Nat), hi - lo ≤ f → lo ≤ hi → hi ≤ n → (∀ i, i < lo → p i = true) → (∀ i, hi ≤ i → i < n → p i = false) →
    bsF p f lo hi ≤ n ∧ (∀ i, i < bsF p f lo hi → p i = true) ∧ (∀ i, bsF p f lo hi ≤ i → i < n → p i = false)
  | 0, lo, hi, h1, h2, h3, h4, h5 => by
    rw [bsF]
    exact ⟨by omega, h4, fun i hi' => h5 i (by omega)⟩
  | f + 1, lo, hi, h1, h2, h3, h4, h5 => by
    rw [bsF]
    split
    · split
      · rename_i hm
        refine bsF_spec p n hp f _ _ (by omega) (by omega) h3 (fun i hi' => ?_) h5
        exact hp i ((lo + hi) / 2) (by omega) (by omega) hm
      · rename_i hm
        refine bsF_spec p n hp f _ _ (by omega) (by omega) (by omega) h4 (fun i hi' hin => ?_)
        cases hpi : p i with
        | false => rfl
        | true => exact absurd (hp ((lo + hi) / 2) i hi' hin hpi) hm
    · exact ⟨by omega, h4, fun i hi' => h5 i (by omega)⟩
theorem firstAt_none (p : Nat → Bool) : ∀ n i, (∀ k, i ≤ k → k < i + n → p k = false) → firstAt p n i = -1
  | 0, _, _ => rfl
  | n + 1, i, h => by
    rw [firstAt, if_neg (by rw [h i (by omega) (by omega)]; simp)]
    exact firstAt_none p n (i + 1) (fun k h1 h2 => h k (by omega) (by omega))
theorem firstAt_some (p : Nat → Bool) (j : Nat) (hj : p j = true) : ∀ n i, i ≤ j → j < i + n → (∀ k, i ≤ k → k < j → p k = false) → firstAt p n i = (j : Int)
  | 0, i, h1, h2, _ => by omega
  | n + 1, i, h1, h2, h => by
    rw [firstAt]
    rcases Nat.eq_or_lt_of_le h1 with e | e
    · subst e; rw [if_pos hj]
    · rw [if_neg (by rw [h i (by omega) e]; simp)]
      exact firstAt_some p j hj n (i + 1) (by omega) (by omega) (fun k h3 h4 => h k (by omega) h4)
theorem firstAt_cases (p : Nat → Bool) : ∀ n i, (firstAt p n i = -1 ∧ ∀ k, i ≤ k → k < i + n → p k = false) ∨ ∃ j : Nat, firstAt p n i = (j : Int) ∧ i ≤ j ∧ j < i + n ∧ p j = true
  | 0, i => .inl ⟨rfl, fun k h1 h2 => by omega⟩
  | n + 1, i => by
    rw [firstAt]
    split
    · rename_i h; exact .inr ⟨i, rfl, by omega, by omega, h⟩
    · rename_i h
      rcases firstAt_cases p n (i + 1) with ⟨h1, h2⟩ | ⟨j, h1, h2, h3, h4⟩
      · refine .inl ⟨h1, fun k h3 h4 => ?_⟩
        rcases Nat.eq_or_lt_of_le h3 with e | e
        · subst e; simpa using h
        · exact h2 k (by omega) (by omega)
      · exact .inr ⟨j, h1, by omega, by omega, h4⟩
/-- The place of a link, or -1. -/
def posL (ls : List Lk) (a b : Int) : Int := firstAt (isL ls a b) ls.length 0
theorem isL_iff (ls : List Lk) (a b : Int) (i : Nat) : isL ls a b i = true ↔ (ls.getD i default).f = a ∧ (ls.getD i default).t = b := by simp [isL]
theorem posL_cases (ls : List Lk) (a b : Int) : (posL ls a b = -1 ∧ ∀ k, k < ls.length → ¬ ((ls.getD k default).f = a ∧ (ls.getD k default).t = b)) ∨
    ∃ j : Nat, posL ls a b = (j : Int) ∧ j < ls.length ∧ (ls.getD j default).f = a ∧ (ls.getD j default).t = b := by
  rcases firstAt_cases (isL ls a b) ls.length 0 with ⟨h1, h2⟩ | ⟨j, h1, h2, h3, h4⟩
  · refine .inl ⟨h1, fun k hk h => ?_⟩
    have := h2 k (by omega) (by omega)
    rw [(isL_iff ls a b k).2 h] at this; cases this
  · exact .inr ⟨j, h1, by omega, (isL_iff ls a b j).1 h4⟩
theorem lessL_iff (ls : List Lk) (a b : Int) (i : Nat) : lessL ls a b i = true ↔ lexLt (ls.getD i default) a b := by simp [lessL, ordI_neg]
/-- Binary search finds what is there. -/
theorem bsL_spec {n : Nat} {ls : List Lk} (hS : SortedP n ls) (a b : Int) :
    (decide (bsL ls a b < ls.length) && decide (ordI (ls.getD (bsL ls a b) default) a b = 0)) = decide (0 ≤ posL ls a b) ∧ (0 ≤ posL ls a b → (bsL ls a b : Int) = posL ls a b) := by
  have hmono : ∀ i j, i ≤ j → j < ls.length → lessL ls a b j = true → lessL ls a b i = true := by
    intro i j hij hj h
    rw [lessL_iff] at *
    rcases Nat.eq_or_lt_of_le hij with e | e
    · subst e; exact h
    · have := rising hS i (j - i - 1) (by omega)
      rw [show i + (j - i - 1 + 1) = j by omega] at this
      unfold lexLt at *; omega
  obtain ⟨h1, h2, h3⟩ := bsF_spec (lessL ls a b) ls.length hmono ls.length 0 ls.length (by omega) (by omega) (by omega) (fun i hi => by omega) (fun i hi hi' => by omega)
  have hb : bsF (lessL ls a b) ls.length 0 ls.length = bsL ls a b := rfl
  rw [hb] at h1 h2 h3
  rcases posL_cases ls a b with ⟨p1, p2⟩ | ⟨j, p1, p2, p3, p4⟩
  · constructor
    · rw [p1]
      by_cases hlt : bsL ls a b < ls.length
      · have : ¬ ordI (ls.getD (bsL ls a b) default) a b = 0 := by rw [ordI_zero]; exact p2 _ hlt
        rw [decide_eq_false this, Bool.and_false]; rfl
      · rw [decide_eq_false hlt, Bool.false_and]; rfl
    · intro h; omega
  · have hj : lessL ls a b j = false := by
      cases h : lessL ls a b j with
      | false => rfl
      | true => rw [lessL_iff] at h; unfold lexLt at h; omega
    have e : bsL ls a b = j := by
      rcases Nat.lt_trichotomy (bsL ls a b) j with h | h | h
      · exfalso
        have h5 := h3 (bsL ls a b) (by omega) (by omega)
        have := rising hS (bsL ls a b) (j - bsL ls a b - 1) (by omega)
        rw [show bsL ls a b + (j - bsL ls a b - 1 + 1) = j by omega, p3, p4, ← lessL_iff] at this
        rw [this] at h5; cases h5
      · exact h
      · rw [h2 j h] at hj; cases hj
    rw [e, p1]
    constructor
    · have : ordI (ls.getD j default) a b = 0 := by rw [ordI_zero]; exact ⟨p3, p4⟩
      rw [decide_eq_true p2, decide_eq_true this, decide_eq_true (by omega)]; rfl
    · intro _; rfl
/-- A link is put together of two. -/
def JoinP (rk : List Int) (ls : List Lk) (x : Lk) : Prop :=
  (0 ≤ x.m ∧ x.m < rk.length) ∧ rk.getD x.m.toNat 0 < rk.getD x.f.toNat 0 ∧ rk.getD x.m.toNat 0 < rk.getD x.t.toNat 0 ∧ 0 ≤ posL ls x.f x.m ∧ 0 ≤ posL ls x.m x.t ∧
    (ls.getD (posL ls x.f x.m).toNat default).w + (ls.getD (posL ls x.m x.t).toNat default).w = x.w
instance (rk : List Int) (ls : List Lk) (x : Lk) : Decidable (JoinP rk ls x) := inferInstanceAs (Decidable (_ ∧ _))
theorem find_s {n : Nat} {ls : List Lk} (hS : SortedP n ls) (a b : Int) (hl : ls.length ≤ 1000000) : ACalls Try.prog G 56 [lksA ls, .int .i64 a, .int .i64 b]
    (.tup [.int .i64 (bsL ls a b), .sb (decide (0 ≤ posL ls a b))]) := by
  rw [← (bsL_spec hS a b).1]; exact find_c ls a b hl
theorem posL_ok {n : Nat} {ls : List Lk} (hS : SortedP n ls) {a b : Int} (h : 0 ≤ posL ls a b) : (bsL ls a b : Int) = posL ls a b ∧ bsL ls a b < ls.length ∧ okL n (ls.getD (bsL ls a b) default) := by
  have h1 := (bsL_spec hS a b).2 h
  rcases posL_cases ls a b with ⟨p1, p2⟩ | ⟨j, p1, p2, p3, p4⟩
  · omega
  · have : bsL ls a b = j := by omega
    rw [this]; exact ⟨by omega, p2, (hS j p2).1⟩
end Go.Proofs.Ytfhdmhoeopbhnaa
set_option linter.unusedSimpArgs false
namespace Go.Proofs.Ytfhdmhoeopbhnaa
open Go.Proofs.Ytfhdmhoeopbhnaa.Am
variable {G : GInv}
set_option maxRecDepth 100000 in
set_option maxHeartbeats 1000000 in
theorem joined_c (rk : List Int) (ls : List Lk) (x : Lk) (hS : SortedP rk.length ls) (hx : okL rk.length x) (hl : ls.length ≤ 1000000) (hr : rk.length ≤ 1000000) :
    ACalls Try.prog G 61 [.agg [intsA rk, lksA ls], .agg (lkA x)] (.sb (decide (JoinP rk ls x))) := by
  obtain ⟨x1, x2, x3, x4, x5⟩ := hx
  have q1 := posL_ok hS (a := x.f) (b := x.m)
  have q2 := posL_ok hS (a := x.m) (b := x.t)
  refine ACalls.of_WA ttok Try.func61 rfl rfl _ rfl ?_
  conv => whnf
  repeat' (first | refine WA_seq ?_ | (refine WA_region ttok ?_; conv => whnf) | (refine WA_draw ttok mixed ?_; conv => whnf) | (refine WA_cond ?_; conv => whnf) | refine WA_block ?_ | (refine WA_skip ?_; conv => whnf) | (refine WA_exit ?_; conv => whnf) | (refine WA_ret ?_; conv => whnf) | (refine And.intro (fun h => ?_) (fun h => ?_) <;> (try simp only [brsA] at h) <;> conv => whnf) | (refine Or.inl ?_; (conv => whnf); refine Exists.intro _ (And.intro (vertex_c _ _ _) ?_); conv => whnf) | (refine Or.inr (Or.inr (Or.inl ?_)); (conv => whnf); refine Exists.intro _ (And.intro (vertex_c _ _ _) ?_); conv => whnf) | (refine Exists.intro _ (And.intro (vertex_c _ _ _) ?_); conv => whnf) | (refine Or.inl ?_; (conv => whnf); refine Exists.intro _ (And.intro (find_s hS _ _ hl) ?_); conv => whnf) | (refine Or.inr (Or.inr (Or.inl ?_)); (conv => whnf); refine Exists.intro _ (And.intro (find_s hS _ _ hl) ?_); conv => whnf) | (refine Exists.intro _ (And.intro (find_s hS _ _ hl) ?_); conv => whnf) | (refine WR_fit ?_ ?_; (focus (first | exact wr_i64 (by omega) | exact wr_u64 (by omega) | exact wr_u8 (by omega) | exact wr_i32 (by omega) | exact wr_u32 (by omega))); conv => whnf) | (refine WR_wrap ?_; conv => whnf) | (refine And.intro (a := indepB _ _ = true) ?_ ?_; (focus kernel_rfl); conv => whnf) | (refine And.intro rfl ?_; conv => whnf) | (refine And.intro ?_ ?_; (focus (first | omega | (simp at *; omega))); conv => whnf))
  all_goals (try simp only [brsD] at *)
  all_goals try
    refine (decide_eq_false fun hJ => ?_).symm
    obtain ⟨j1, j2, j3, j4, j5, j6⟩ := hJ
    omega
  · rename_i g1 g2 g3 g4
    obtain ⟨a1, a2, a3⟩ := q1 g3
    obtain ⟨b1, b2, b3⟩ := q2 g4
    obtain ⟨_, _, _, a4, a5⟩ := a3
    obtain ⟨_, _, _, b4, b5⟩ := b3
    rw [i64_in (by omega), Bool.beq_eq_decide_eq]
    apply decide_eq_decide.2
    have e1 : (posL ls x.f x.m).toNat = bsL ls x.f x.m := by omega
    have e2 : (posL ls x.m x.t).toNat = bsL ls x.m x.t := by omega
    constructor
    · intro h6; exact ⟨by assumption, by omega, by omega, g3, g4, by rw [e1, e2]; exact h6⟩
    · rintro ⟨_, _, _, _, _, h6⟩; rw [e1, e2] at h6; exact h6
/-- A law, asked of a row's elements one by one. -/
theorem indexFunc_c (rk : List Int) (hs ls : List Lk) (f : Nat) (p : Nat → Bool) (hl : ls.length ≤ 1000000)
    (hp : ∀ i, i < ls.length → ACalls Try.prog G f [.agg (lkA (ls.getD i default)), .bref [intsA rk, lksA hs] 0] (.sb (p i))) :
    ACalls Try.prog G 98 [lksA ls, .fn f [.bref [intsA rk, lksA hs] 0]] (.int .i64 (firstAt p ls.length 0)) := by
  refine ACalls.of_WA ttok Try.func98 rfl rfl _ rfl ?_
  conv => whnf
  repeat' (first | refine WA_seq ?_ | (refine WA_region ttok ?_; conv => whnf) | (refine WA_draw ttok mixed ?_; conv => whnf) | (refine WA_cond ?_; conv => whnf) | refine WA_block ?_ | (refine WA_skip ?_; conv => whnf) | (refine WA_exit ?_; conv => whnf) | (refine WA_ret ?_; conv => whnf) | (refine And.intro (fun h => ?_) (fun h => ?_) <;> (try simp only [brsA] at h) <;> conv => whnf) | (refine WR_fit ?_ ?_; (focus (first | exact wr_i64 (by omega) | exact wr_u64 (by omega) | exact wr_u8 (by omega) | exact wr_i32 (by omega) | exact wr_u32 (by omega))); conv => whnf) | (refine WR_wrap ?_; conv => whnf) | (refine And.intro (a := indepB _ _ = true) ?_ ?_; (focus kernel_rfl); conv => whnf) | (refine And.intro rfl ?_; conv => whnf) | (refine And.intro ?_ ?_; (focus (first | omega | (simp at *; omega))); conv => whnf))
  refine WA_loopI (fun i : Nat => i ≤ ls.length ∧ firstAt p ls.length 0 = firstAt p (ls.length - i) i) (fun i => [(8, .int .i64 (i : Int))]) (fun _ => []) (fun i => ls.length - i) 0 ⟨by omega, rfl⟩ ?_ ?_
  · conv => whnf
    repeat (first | exact rfl | exact trivial | exact Or.inl (fun _ _ => rfl) | exact (fun _ => rfl) | exact (fun _ _ => rfl) | exact Or.inl (fun _ hi => absurd hi (Nat.not_lt_zero _)) | (refine And.intro rfl ?_; conv => whnf) | (refine And.intro (Or.inl (fun _ _ => rfl)) ?_; conv => whnf) | (refine And.intro (fun _ => rfl) ?_; conv => whnf) | (refine And.intro (fun _ _ => rfl) ?_; conv => whnf) | (refine And.intro ?_ ?_; rotate_left; conv => whnf))
  · rintro i ⟨hi, he⟩
    conv => whnf
    repeat' (first | refine WA_seq ?_ | (refine WA_region ttok ?_; conv => whnf) | (refine WA_draw ttok mixed ?_; conv => whnf) | (refine WA_cond ?_; conv => whnf) | refine WA_block ?_ | (refine WA_skip ?_; conv => whnf) | (refine WA_exit ?_; conv => whnf) | (refine WA_ret ?_; conv => whnf) | (refine And.intro (fun h => ?_) (fun h => ?_) <;> (try simp only [brsA] at h) <;> conv => whnf) | (refine Or.inl ?_; (conv => whnf); refine Exists.intro _ (And.intro (hp i (by omega)) ?_); conv => whnf) | (refine Or.inr (Or.inr (Or.inl ?_)); (conv => whnf); refine Exists.intro _ (And.intro (hp i (by omega)) ?_); conv => whnf) | (refine Exists.intro _ (And.intro (hp i (by omega)) ?_); conv => whnf) | (refine WR_fit ?_ ?_; (focus (first | exact wr_i64 (by omega) | exact wr_u64 (by omega) | exact wr_u8 (by omega) | exact wr_i32 (by omega) | exact wr_u32 (by omega))); conv => whnf) | (refine WR_wrap ?_; conv => whnf) | (refine And.intro (a := indepB _ _ = true) ?_ ?_; (focus kernel_rfl); conv => whnf) | (refine And.intro rfl ?_; conv => whnf) | (refine And.intro ?_ ?_; (focus (first | omega | (simp at *; omega))); conv => whnf))
    · rw [he, firstAt_step _ (show i < ls.length by omega), if_pos h]
    · refine ⟨i + 1, ⟨by omega, by rw [he, firstAt_step _ (show i < ls.length by omega), if_neg (by rw [h]; simp)]⟩, (by show ls.length - (i + 1) < ls.length - i; omega), ?_⟩
      conv => whnf
      repeat (first | exact rfl | exact trivial | exact Or.inl (fun _ _ => rfl) | exact (fun _ => rfl) | exact (fun _ _ => rfl) | exact Or.inl (fun _ hi => absurd hi (Nat.not_lt_zero _)) | (refine And.intro rfl ?_; conv => whnf) | (refine And.intro (Or.inl (fun _ _ => rfl)) ?_; conv => whnf) | (refine And.intro (fun _ => rfl) ?_; conv => whnf) | (refine And.intro (fun _ _ => rfl) ?_; conv => whnf) | (refine And.intro ?_ ?_; rotate_left; conv => whnf))
    · rw [he, show ls.length - i = 0 by omega]; rfl
theorem containsFunc_c (rk : List Int) (hs ls : List Lk) (f : Nat) (p : Nat → Bool) (hl : ls.length ≤ 1000000)
    (hp : ∀ i, i < ls.length → ACalls Try.prog G f [.agg (lkA (ls.getD i default)), .bref [intsA rk, lksA hs] 0] (.sb (p i))) :
    ACalls Try.prog G 59 [lksA ls, .fn f [.bref [intsA rk, lksA hs] 0]] (.sb (decide (0 ≤ firstAt p ls.length 0))) := by
  refine ACalls.of_WA ttok Try.func59 rfl rfl _ rfl ?_
  conv => whnf
  repeat' (first | refine WA_seq ?_ | (refine WA_region ttok ?_; conv => whnf) | (refine WA_draw ttok mixed ?_; conv => whnf) | (refine WA_cond ?_; conv => whnf) | refine WA_block ?_ | (refine WA_skip ?_; conv => whnf) | (refine WA_exit ?_; conv => whnf) | (refine WA_ret ?_; conv => whnf) | (refine And.intro (fun h => ?_) (fun h => ?_) <;> (try simp only [brsA] at h) <;> conv => whnf) | (refine Or.inl ?_; (conv => whnf); refine Exists.intro _ (And.intro (indexFunc_c rk hs ls f p hl hp) ?_); conv => whnf) | (refine Or.inr (Or.inr (Or.inl ?_)); (conv => whnf); refine Exists.intro _ (And.intro (indexFunc_c rk hs ls f p hl hp) ?_); conv => whnf) | (refine Exists.intro _ (And.intro (indexFunc_c rk hs ls f p hl hp) ?_); conv => whnf) | (refine WR_fit ?_ ?_; (focus (first | exact wr_i64 (by omega) | exact wr_u64 (by omega) | exact wr_u8 (by omega) | exact wr_i32 (by omega) | exact wr_u32 (by omega))); conv => whnf) | (refine WR_wrap ?_; conv => whnf) | (refine And.intro (a := indepB _ _ = true) ?_ ?_; (focus kernel_rfl); conv => whnf) | (refine And.intro rfl ?_; conv => whnf) | (refine And.intro ?_ ?_; (focus (first | omega | (simp at *; omega))); conv => whnf))
theorem may1_c (rk : List Int) (ls : List Lk) (x : Lk) (hS : SortedP rk.length ls) (hx : okL rk.length x) (hl : ls.length ≤ 1000000) (hr : rk.length ≤ 1000000) :
    ACalls Try.prog G 60 [.agg (lkA x), .bref [intsA rk, lksA ls] 0] (.sb (decide (x.m ≠ -1 ∧ ¬ JoinP rk ls x))) := by
  refine ACalls.of_WA ttok Try.func60 rfl rfl _ rfl ?_
  conv => whnf
  repeat' (first | refine WA_seq ?_ | (refine WA_region ttok ?_; conv => whnf) | (refine WA_draw ttok mixed ?_; conv => whnf) | (refine WA_cond ?_; conv => whnf) | refine WA_block ?_ | (refine WA_skip ?_; conv => whnf) | (refine WA_exit ?_; conv => whnf) | (refine WA_ret ?_; conv => whnf) | (refine And.intro (fun h => ?_) (fun h => ?_) <;> (try simp only [brsA] at h) <;> conv => whnf) | (refine Or.inl ?_; (conv => whnf); refine Exists.intro _ (And.intro (joined_c rk ls x hS hx hl hr) ?_); conv => whnf) | (refine Or.inr (Or.inr (Or.inl ?_)); (conv => whnf); refine Exists.intro _ (And.intro (joined_c rk ls x hS hx hl hr) ?_); conv => whnf) | (refine Exists.intro _ (And.intro (joined_c rk ls x hS hx hl hr) ?_); conv => whnf) | (refine WR_fit ?_ ?_; (focus (first | exact wr_i64 (by omega) | exact wr_u64 (by omega) | exact wr_u8 (by omega) | exact wr_i32 (by omega) | exact wr_u32 (by omega))); conv => whnf) | (refine WR_wrap ?_; conv => whnf) | (refine And.intro (a := indepB _ _ = true) ?_ ?_; (focus kernel_rfl); conv => whnf) | (refine And.intro rfl ?_; conv => whnf) | (refine And.intro ?_ ?_; (focus (first | omega | (simp at *; omega))); conv => whnf))
  · simp [h]
  · simp [h]
def MayP (rk : List Int) (ls : List Lk) : Prop := rk.length ≤ 4000 ∧ ls.length ≤ 200000 ∧ RanksP rk ∧ SortedP rk.length ls ∧ ∀ i, i < ls.length → (ls.getD i default).m = -1 ∨ JoinP rk ls (ls.getD i default)
instance (rk : List Int) (ls : List Lk) : Decidable (MayP rk ls) := inferInstanceAs (Decidable (_ ∧ _ ∧ _ ∧ _ ∧ ∀ i, i < ls.length → _))
theorem firstAt_nonneg (p : Nat → Bool) (n : Nat) : 0 ≤ firstAt p n 0 ↔ ∃ i, i < n ∧ p i = true := by
  rcases firstAt_cases p n 0 with ⟨h1, h2⟩ | ⟨j, h1, h2, h3, h4⟩
  · constructor
    · intro h; omega
    · rintro ⟨i, hi, hp⟩; rw [h2 i (by omega) (by omega)] at hp; cases hp
  · exact ⟨fun _ => ⟨j, by omega, h4⟩, fun _ => by omega⟩
set_option maxRecDepth 100000 in
theorem may_c (rk : List Int) (ls : List Lk) (hl : ls.length ≤ 1000000) (hr : rk.length ≤ 1000000) : ACalls Try.prog G 14 [.agg [intsA rk, lksA ls]] (.sb (decide (MayP rk ls))) := by
  refine ACalls.of_WA ttok Try.func14 rfl rfl _ rfl ?_
  conv => whnf
  repeat' (first | refine WA_seq ?_ | (refine WA_region ttok ?_; conv => whnf) | (refine WA_draw ttok mixed ?_; conv => whnf) | (refine WA_cond ?_; conv => whnf) | refine WA_block ?_ | (refine WA_skip ?_; conv => whnf) | (refine WA_exit ?_; conv => whnf) | (refine WA_ret ?_; conv => whnf) | (refine And.intro (fun h => ?_) (fun h => ?_) <;> (try simp only [brsA] at h) <;> conv => whnf) | (refine Or.inl ?_; (conv => whnf); refine Exists.intro _ (And.intro (ranks_c _ hr) ?_); conv => whnf) | (refine Or.inr (Or.inr (Or.inl ?_)); (conv => whnf); refine Exists.intro _ (And.intro (ranks_c _ hr) ?_); conv => whnf) | (refine Exists.intro _ (And.intro (ranks_c _ hr) ?_); conv => whnf) | (refine Or.inl ?_; (conv => whnf); refine Exists.intro _ (And.intro (sorted_c rk ls hl) ?_); conv => whnf) | (refine Or.inr (Or.inr (Or.inl ?_)); (conv => whnf); refine Exists.intro _ (And.intro (sorted_c rk ls hl) ?_); conv => whnf) | (refine Exists.intro _ (And.intro (sorted_c rk ls hl) ?_); conv => whnf) | (refine WR_fit ?_ ?_; (focus (first | exact wr_i64 (by omega) | exact wr_u64 (by omega) | exact wr_u8 (by omega) | exact wr_i32 (by omega) | exact wr_u32 (by omega))); conv => whnf) | (refine WR_wrap ?_; conv => whnf) | (refine And.intro (a := indepB _ _ = true) ?_ ?_; (focus kernel_rfl); conv => whnf) | (refine And.intro rfl ?_; conv => whnf) | (refine And.intro ?_ ?_; (focus (first | omega | (simp at *; omega))); conv => whnf))
  · exact (decide_eq_false fun hM => h hM.2.2.2.1).symm
  · rename_i g1 g2 g3
    have hp : ∀ i, i < ls.length → ACalls Try.prog G 60 [.agg (lkA (ls.getD i default)), .bref [intsA rk, lksA ls] 0] (.sb (decide ((ls.getD i default).m ≠ -1 ∧ ¬ JoinP rk ls (ls.getD i default)))) :=
      fun i hi => may1_c rk ls _ h (h i hi).1 hl hr
    refine Or.inl ⟨_, containsFunc_c rk ls ls 60 _ hl hp, rfl, ?_⟩
    conv => whnf
    repeat' (first | refine WA_seq ?_ | (refine WA_region ttok ?_; conv => whnf) | (refine WA_draw ttok mixed ?_; conv => whnf) | (refine WA_cond ?_; conv => whnf) | refine WA_block ?_ | (refine WA_skip ?_; conv => whnf) | (refine WA_exit ?_; conv => whnf) | (refine WA_ret ?_; conv => whnf) | (refine And.intro (fun h => ?_) (fun h => ?_) <;> (try simp only [brsA] at h) <;> conv => whnf) | (refine WR_fit ?_ ?_; (focus (first | exact wr_i64 (by omega) | exact wr_u64 (by omega) | exact wr_u8 (by omega) | exact wr_i32 (by omega) | exact wr_u32 (by omega))); conv => whnf) | (refine WR_wrap ?_; conv => whnf) | (refine And.intro (a := indepB _ _ = true) ?_ ?_; (focus kernel_rfl); conv => whnf) | (refine And.intro rfl ?_; conv => whnf) | (refine And.intro ?_ ?_; (focus (first | omega | (simp at *; omega))); conv => whnf))
    rw [← decide_not]
    apply decide_eq_decide.2
    rw [firstAt_nonneg]
    constructor
    · intro hn
      refine ⟨by omega, by omega, g3, h, fun i hi => ?_⟩
      by_cases hm : (ls.getD i default).m = -1
      · exact .inl hm
      · refine .inr (Decidable.byContradiction fun hj => hn ⟨i, hi, decide_eq_true ⟨hm, hj⟩⟩)
    · rintro ⟨_, _, _, _, hM⟩ ⟨i, hi, hd⟩
      have hd := of_decide_eq_true hd
      rcases hM i hi with h1 | h1
      · exact hd.1 h1
      · exact hd.2 h1
  · exact (decide_eq_false fun hM => h hM.2.2.1).symm
  · exact (decide_eq_false fun hM => by have := hM.2.1; omega).symm
  · exact (decide_eq_false fun hM => by have := hM.1; omega).symm
end Go.Proofs.Ytfhdmhoeopbhnaa
