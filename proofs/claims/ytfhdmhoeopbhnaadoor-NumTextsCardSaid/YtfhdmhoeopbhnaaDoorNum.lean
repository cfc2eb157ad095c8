/-
  The walks of the package num and of its reference, and the plain laws on numerals.
-/
import Derived.Test.YtfhdmhoeopbhnaaDoorAm3
import Derived.Test.YtfhdmhoeopbhnaaDoorRows
import Derived.IntWalk
import Derived.Test.YtfhdmhoeopbhnaaDoorShelf
import Derived.Lib.ItoaLen
import Derived.Test.YtfhdmhoeopbhnaaDoorCards
import Derived.Test.YtfhdmhoeopbhnaaDoorTie
namespace Go.Proofs.YtfhdmhoeopbhnaaDoor
open Go.Proofs.YtfhdmhoeopbhnaaDoor.Am
def tt : TT := [
  (1, ⟨false, 1, [], 0, 0, 0, 0, [.nilfn], 0, .i64, none⟩),
  (2, ⟨false, 1, [], 0, 0, 0, 0, [.int .i64 0], 5, .i64, some [5]⟩),
  (3, ⟨false, 1, [], 0, 0, 0, 0, [.int .i64 0], 5, .i64, some [5]⟩),
  (4, ⟨false, 1, [], 0, 0, 0, 0, [.bool false], 6, .i64, some [6]⟩),
  (5, ⟨false, 1, [], 0, 0, 0, 0, [.int .u8 0], 5, .u8, some [5]⟩),
  (9, ⟨false, 1, [], 0, 0, 0, 0, [.str []], 4, .i64, some [4]⟩),
  (12, ⟨false, 1, [], 0, 0, 0, 0, [.int .u64 0], 5, .u64, some [5]⟩),
  (15, ⟨false, 1, [], 0, 0, 0, 0, [.nilp], 0, .i64, none⟩),
  (16, ⟨false, 1, [], 0, 0, 0, 0, [.nilp], 0, .i64, none⟩),
  (17, ⟨false, 1, [], 0, 0, 0, 0, [.nilp], 0, .i64, none⟩),
  (20, ⟨false, 1, [], 0, 0, 0, 0, [.junk], 0, .i64, none⟩),
  (21, ⟨false, 1, [], 0, 0, 0, 0, [.int .i32 0], 5, .i32, some [5]⟩),
  (22, ⟨false, 1, [], 0, 0, 0, 0, [.nilfn], 0, .i64, none⟩),
  (23, ⟨false, 1, [], 0, 0, 0, 0, [.int .i64 0], 5, .i64, some [5]⟩),
  (25, ⟨false, 1, [], 0, 0, 0, 0, [.nilfn], 0, .i64, none⟩),
  (26, ⟨false, 1, [], 0, 0, 0, 0, [.nilfn], 0, .i64, none⟩),
  (27, ⟨false, 1, [], 0, 0, 0, 0, [.nilfn], 0, .i64, none⟩),
  (28, ⟨false, 1, [], 0, 0, 0, 0, [.nilfn], 0, .i64, none⟩),
  (29, ⟨false, 1, [], 0, 0, 0, 0, [.nilfn], 0, .i64, none⟩),
  (30, ⟨false, 1, [], 9, 1, 16, 0, [.nils], 3, .i64, none⟩),
  (31, ⟨false, 1, [], 0, 0, 0, 0, [.nilfn], 0, .i64, none⟩),
  (32, ⟨false, 1, [], 0, 0, 0, 0, [.nilfn], 0, .i64, none⟩),
  (33, ⟨false, 1, [], 0, 0, 0, 0, [.nilfn], 0, .i64, none⟩),
  (35, ⟨false, 1, [], 0, 0, 0, 0, [.nilfn], 0, .i64, none⟩),
  (37, ⟨false, 1, [], 0, 0, 0, 0, [.nilfn], 0, .i64, none⟩),
  (39, ⟨false, 1, [], 0, 0, 0, 0, [.nilfn], 0, .i64, none⟩),
  (40, ⟨false, 1, [], 0, 0, 0, 0, [.nilfn], 0, .i64, none⟩),
  (41, ⟨true, 2, [], 3, 1, 8, 2, [.int .i64 0, .int .i64 0], 2, .i64, some [5, 5]⟩),
  (42, ⟨false, 1, [], 0, 0, 0, 0, [.nilfn], 0, .i64, none⟩),
  (43, ⟨false, 1, [], 3, 1, 8, 0, [.nils], 3, .i64, none⟩),
  (45, ⟨false, 1, [], 0, 0, 0, 0, [.nilfn], 0, .i64, none⟩),
  (46, ⟨false, 1, [], 0, 0, 0, 0, [.nilfn], 0, .i64, none⟩),
  (47, ⟨false, 1, [], 0, 0, 0, 0, [.nilfn], 0, .i64, none⟩),
  (49, ⟨false, 1, [], 0, 0, 0, 0, [.nilfn], 0, .i64, none⟩),
  (50, ⟨false, 1, [], 0, 0, 0, 0, [.nilfn], 0, .i64, none⟩),
  (51, ⟨false, 1, [], 0, 0, 0, 0, [.nilfn], 0, .i64, none⟩),
  (52, ⟨false, 1, [], 0, 0, 0, 0, [.nilfn], 0, .i64, none⟩),
  (53, ⟨false, 1, [], 0, 0, 0, 0, [.nilfn], 0, .i64, none⟩),
  (54, ⟨false, 1, [], 0, 0, 0, 0, [.nilfn], 0, .i64, none⟩),
  (55, ⟨false, 1, [], 0, 0, 0, 0, [.nilfn], 0, .i64, none⟩),
  (56, ⟨false, 1, [], 0, 0, 0, 0, [.nilfn], 0, .i64, none⟩),
  (57, ⟨false, 1, [], 5, 1, 1, 0, [.nils], 3, .i64, none⟩),
  (58, ⟨false, 1, [], 0, 0, 0, 0, [.nilfn], 0, .i64, none⟩),
  (59, ⟨false, 1, [], 0, 0, 0, 0, [.nilfn], 0, .i64, none⟩),
  (60, ⟨false, 1, [], 0, 0, 0, 0, [.nilp], 0, .i64, none⟩),
  (61, ⟨true, 2, [(0, 1), (1, 1)], 0, 0, 0, 0, [.nilp, .nils], 1, .i64, none⟩),
  (62, ⟨true, 2, [(0, 1), (1, 1)], 0, 0, 0, 0, [.nilp, .nils], 1, .i64, none⟩),
  (63, ⟨false, 1, [], 0, 0, 0, 0, [.nilfn], 0, .i64, none⟩),
  (64, ⟨false, 1, [], 0, 0, 0, 0, [.junk], 0, .i64, none⟩),
  (65, ⟨false, 1, [], 0, 0, 0, 0, [.junk], 0, .i64, none⟩),
  (67, ⟨false, 1, [], 0, 0, 0, 0, [.nilfn], 0, .i64, none⟩),
  (68, ⟨false, 1, [], 0, 0, 0, 0, [.nilfn], 0, .i64, none⟩),
  (69, ⟨false, 1, [], 0, 0, 0, 0, [.nilfn], 0, .i64, none⟩),
  (70, ⟨false, 1, [], 0, 0, 0, 0, [.nilfn], 0, .i64, none⟩),
  (71, ⟨false, 1, [], 0, 0, 0, 0, [.nilfn], 0, .i64, none⟩),
  (72, ⟨false, 1, [], 0, 0, 0, 0, [.nilfn], 0, .i64, none⟩),
  (73, ⟨false, 1, [], 0, 0, 0, 0, [.nilp], 0, .i64, none⟩),
  (74, ⟨true, 24, [], 5, 1, 1, 24, [.int .u8 0, .int .u8 0, .int .u8 0, .int .u8 0, .int .u8 0, .int .u8 0, .int .u8 0, .int .u8 0, .int .u8 0, .int .u8 0, .int .u8 0, .int .u8 0, .int .u8 0, .int .u8 0, .int .u8 0, .int .u8 0, .int .u8 0, .int .u8 0, .int .u8 0, .int .u8 0, .int .u8 0, .int .u8 0, .int .u8 0, .int .u8 0], 2, .i64, some [5, 5, 5, 5, 5, 5, 5, 5, 5, 5, 5, 5, 5, 5, 5, 5, 5, 5, 5, 5, 5, 5, 5, 5]⟩),
  (75, ⟨false, 1, [], 0, 0, 0, 0, [.int .u64 0], 5, .u64, some [5]⟩),
  (76, ⟨false, 1, [], 0, 0, 0, 0, [.nilfn], 0, .i64, none⟩),
  (77, ⟨false, 1, [], 0, 0, 0, 0, [.nilfn], 0, .i64, none⟩),
  (79, ⟨false, 1, [], 0, 0, 0, 0, [.nilfn], 0, .i64, none⟩),
  (81, ⟨false, 1, [], 0, 0, 0, 0, [.nilfn], 0, .i64, none⟩),
  (82, ⟨false, 1, [], 0, 0, 0, 0, [.nilp], 0, .i64, none⟩),
  (83, ⟨false, 1, [], 0, 0, 0, 0, [.nilfn], 0, .i64, none⟩),
  (84, ⟨false, 1, [], 0, 0, 0, 0, [.nilfn], 0, .i64, none⟩),
  (85, ⟨false, 1, [], 0, 0, 0, 0, [.nilfn], 0, .i64, none⟩),
  (86, ⟨true, 20, [], 75, 1, 8, 20, [.int .u64 0, .int .u64 0, .int .u64 0, .int .u64 0, .int .u64 0, .int .u64 0, .int .u64 0, .int .u64 0, .int .u64 0, .int .u64 0, .int .u64 0, .int .u64 0, .int .u64 0, .int .u64 0, .int .u64 0, .int .u64 0, .int .u64 0, .int .u64 0, .int .u64 0, .int .u64 0], 2, .i64, some [5, 5, 5, 5, 5, 5, 5, 5, 5, 5, 5, 5, 5, 5, 5, 5, 5, 5, 5, 5]⟩),
  (87, ⟨false, 1, [], 0, 0, 0, 0, [.int .u32 0], 5, .u32, some [5]⟩),
  (88, ⟨true, 65, [], 5, 1, 1, 65, [.int .u8 0, .int .u8 0, .int .u8 0, .int .u8 0, .int .u8 0, .int .u8 0, .int .u8 0, .int .u8 0, .int .u8 0, .int .u8 0, .int .u8 0, .int .u8 0, .int .u8 0, .int .u8 0, .int .u8 0, .int .u8 0, .int .u8 0, .int .u8 0, .int .u8 0, .int .u8 0, .int .u8 0, .int .u8 0, .int .u8 0, .int .u8 0, .int .u8 0, .int .u8 0, .int .u8 0, .int .u8 0, .int .u8 0, .int .u8 0, .int .u8 0, .int .u8 0, .int .u8 0, .int .u8 0, .int .u8 0, .int .u8 0, .int .u8 0, .int .u8 0, .int .u8 0, .int .u8 0, .int .u8 0, .int .u8 0, .int .u8 0, .int .u8 0, .int .u8 0, .int .u8 0, .int .u8 0, .int .u8 0, .int .u8 0, .int .u8 0, .int .u8 0, .int .u8 0, .int .u8 0, .int .u8 0, .int .u8 0, .int .u8 0, .int .u8 0, .int .u8 0, .int .u8 0, .int .u8 0, .int .u8 0, .int .u8 0, .int .u8 0, .int .u8 0, .int .u8 0], 2, .i64, some [5, 5, 5, 5, 5, 5, 5, 5, 5, 5, 5, 5, 5, 5, 5, 5, 5, 5, 5, 5, 5, 5, 5, 5, 5, 5, 5, 5, 5, 5, 5, 5, 5, 5, 5, 5, 5, 5, 5, 5, 5, 5, 5, 5, 5, 5, 5, 5, 5, 5, 5, 5, 5, 5, 5, 5, 5, 5, 5, 5, 5, 5, 5, 5, 5]⟩),
  (89, ⟨false, 1, [], 0, 0, 0, 0, [.int .u64 0], 5, .u64, some [5]⟩),
  (90, ⟨false, 1, [], 0, 0, 0, 0, [.nilfn], 0, .i64, none⟩),
  (91, ⟨false, 1, [], 0, 0, 0, 0, [.nilfn], 0, .i64, none⟩),
  (92, ⟨true, 256, [], 5, 1, 1, 256, [.int .u8 0, .int .u8 0, .int .u8 0, .int .u8 0, .int .u8 0, .int .u8 0, .int .u8 0, .int .u8 0, .int .u8 0, .int .u8 0, .int .u8 0, .int .u8 0, .int .u8 0, .int .u8 0, .int .u8 0, .int .u8 0, .int .u8 0, .int .u8 0, .int .u8 0, .int .u8 0, .int .u8 0, .int .u8 0, .int .u8 0, .int .u8 0, .int .u8 0, .int .u8 0, .int .u8 0, .int .u8 0, .int .u8 0, .int .u8 0, .int .u8 0, .int .u8 0, .int .u8 0, .int .u8 0, .int .u8 0, .int .u8 0, .int .u8 0, .int .u8 0, .int .u8 0, .int .u8 0, .int .u8 0, .int .u8 0, .int .u8 0, .int .u8 0, .int .u8 0, .int .u8 0, .int .u8 0, .int .u8 0, .int .u8 0, .int .u8 0, .int .u8 0, .int .u8 0, .int .u8 0, .int .u8 0, .int .u8 0, .int .u8 0, .int .u8 0, .int .u8 0, .int .u8 0, .int .u8 0, .int .u8 0, .int .u8 0, .int .u8 0, .int .u8 0, .int .u8 0, .int .u8 0, .int .u8 0, .int .u8 0, .int .u8 0, .int .u8 0, .int .u8 0, .int .u8 0, .int .u8 0, .int .u8 0, .int .u8 0, .int .u8 0, .int .u8 0, .int .u8 0, .int .u8 0, .int .u8 0, .int .u8 0, .int .u8 0, .int .u8 0, .int .u8 0, .int .u8 0, .int .u8 0, .int .u8 0, .int .u8 0, .int .u8 0, .int .u8 0, .int .u8 0, .int .u8 0, .int .u8 0, .int .u8 0, .int .u8 0, .int .u8 0, .int .u8 0, .int .u8 0, .int .u8 0, .int .u8 0, .int .u8 0, .int .u8 0, .int .u8 0, .int .u8 0, .int .u8 0, .int .u8 0, .int .u8 0, .int .u8 0, .int .u8 0, .int .u8 0, .int .u8 0, .int .u8 0, .int .u8 0, .int .u8 0, .int .u8 0, .int .u8 0, .int .u8 0, .int .u8 0, .int .u8 0, .int .u8 0, .int .u8 0, .int .u8 0, .int .u8 0, .int .u8 0, .int .u8 0, .int .u8 0, .int .u8 0, .int .u8 0, .int .u8 0, .int .u8 0, .int .u8 0, .int .u8 0, .int .u8 0, .int .u8 0, .int .u8 0, .int .u8 0, .int .u8 0, .int .u8 0, .int .u8 0, .int .u8 0, .int .u8 0, .int .u8 0, .int .u8 0, .int .u8 0, .int .u8 0, .int .u8 0, .int .u8 0, .int .u8 0, .int .u8 0, .int .u8 0, .int .u8 0, .int .u8 0, .int .u8 0, .int .u8 0, .int .u8 0, .int .u8 0, .int .u8 0, .int .u8 0, .int .u8 0, .int .u8 0, .int .u8 0, .int .u8 0, .int .u8 0, .int .u8 0, .int .u8 0, .int .u8 0, .int .u8 0, .int .u8 0, .int .u8 0, .int .u8 0, .int .u8 0, .int .u8 0, .int .u8 0, .int .u8 0, .int .u8 0, .int .u8 0, .int .u8 0, .int .u8 0, .int .u8 0, .int .u8 0, .int .u8 0, .int .u8 0, .int .u8 0, .int .u8 0, .int .u8 0, .int .u8 0, .int .u8 0, .int .u8 0, .int .u8 0, .int .u8 0, .int .u8 0, .int .u8 0, .int .u8 0, .int .u8 0, .int .u8 0, .int .u8 0, .int .u8 0, .int .u8 0, .int .u8 0, .int .u8 0, .int .u8 0, .int .u8 0, .int .u8 0, .int .u8 0, .int .u8 0, .int .u8 0, .int .u8 0, .int .u8 0, .int .u8 0, .int .u8 0, .int .u8 0, .int .u8 0, .int .u8 0, .int .u8 0, .int .u8 0, .int .u8 0, .int .u8 0, .int .u8 0, .int .u8 0, .int .u8 0, .int .u8 0, .int .u8 0, .int .u8 0, .int .u8 0, .int .u8 0, .int .u8 0, .int .u8 0, .int .u8 0, .int .u8 0, .int .u8 0, .int .u8 0, .int .u8 0, .int .u8 0, .int .u8 0, .int .u8 0, .int .u8 0, .int .u8 0, .int .u8 0, .int .u8 0, .int .u8 0, .int .u8 0, .int .u8 0, .int .u8 0, .int .u8 0, .int .u8 0, .int .u8 0, .int .u8 0, .int .u8 0, .int .u8 0, .int .u8 0, .int .u8 0, .int .u8 0, .int .u8 0, .int .u8 0, .int .u8 0, .int .u8 0], 2, .i64, some [5, 5, 5, 5, 5, 5, 5, 5, 5, 5, 5, 5, 5, 5, 5, 5, 5, 5, 5, 5, 5, 5, 5, 5, 5, 5, 5, 5, 5, 5, 5, 5, 5, 5, 5, 5, 5, 5, 5, 5, 5, 5, 5, 5, 5, 5, 5, 5, 5, 5, 5, 5, 5, 5, 5, 5, 5, 5, 5, 5, 5, 5, 5, 5, 5, 5, 5, 5, 5, 5, 5, 5, 5, 5, 5, 5, 5, 5, 5, 5, 5, 5, 5, 5, 5, 5, 5, 5, 5, 5, 5, 5, 5, 5, 5, 5, 5, 5, 5, 5, 5, 5, 5, 5, 5, 5, 5, 5, 5, 5, 5, 5, 5, 5, 5, 5, 5, 5, 5, 5, 5, 5, 5, 5, 5, 5, 5, 5, 5, 5, 5, 5, 5, 5, 5, 5, 5, 5, 5, 5, 5, 5, 5, 5, 5, 5, 5, 5, 5, 5, 5, 5, 5, 5, 5, 5, 5, 5, 5, 5, 5, 5, 5, 5, 5, 5, 5, 5, 5, 5, 5, 5, 5, 5, 5, 5, 5, 5, 5, 5, 5, 5, 5, 5, 5, 5, 5, 5, 5, 5, 5, 5, 5, 5, 5, 5, 5, 5, 5, 5, 5, 5, 5, 5, 5, 5, 5, 5, 5, 5, 5, 5, 5, 5, 5, 5, 5, 5, 5, 5, 5, 5, 5, 5, 5, 5, 5, 5, 5, 5, 5, 5, 5, 5, 5, 5, 5, 5, 5, 5, 5, 5, 5, 5, 5, 5, 5, 5, 5, 5, 5, 5, 5, 5, 5, 5]⟩),
  (93, ⟨true, 2, [(0, 1), (1, 1)], 0, 0, 0, 0, [.int .u8 0, .int .u8 0], 1, .i64, some [5, 5]⟩),
  (94, ⟨true, 2, [(0, 1), (1, 1)], 0, 0, 0, 0, [.int .u8 0, .int .u8 0], 1, .i64, some [5, 5]⟩),
  (95, ⟨true, 32, [], 94, 2, 2, 16, [.int .u8 0, .int .u8 0, .int .u8 0, .int .u8 0, .int .u8 0, .int .u8 0, .int .u8 0, .int .u8 0, .int .u8 0, .int .u8 0, .int .u8 0, .int .u8 0, .int .u8 0, .int .u8 0, .int .u8 0, .int .u8 0, .int .u8 0, .int .u8 0, .int .u8 0, .int .u8 0, .int .u8 0, .int .u8 0, .int .u8 0, .int .u8 0, .int .u8 0, .int .u8 0, .int .u8 0, .int .u8 0, .int .u8 0, .int .u8 0, .int .u8 0, .int .u8 0], 2, .i64, some [5, 5, 5, 5, 5, 5, 5, 5, 5, 5, 5, 5, 5, 5, 5, 5, 5, 5, 5, 5, 5, 5, 5, 5, 5, 5, 5, 5, 5, 5, 5, 5]⟩),
  (97, ⟨false, 1, [], 0, 0, 0, 0, [.nilfn], 0, .i64, none⟩),
  (98, ⟨true, 32, [], 5, 1, 1, 32, [.int .u8 0, .int .u8 0, .int .u8 0, .int .u8 0, .int .u8 0, .int .u8 0, .int .u8 0, .int .u8 0, .int .u8 0, .int .u8 0, .int .u8 0, .int .u8 0, .int .u8 0, .int .u8 0, .int .u8 0, .int .u8 0, .int .u8 0, .int .u8 0, .int .u8 0, .int .u8 0, .int .u8 0, .int .u8 0, .int .u8 0, .int .u8 0, .int .u8 0, .int .u8 0, .int .u8 0, .int .u8 0, .int .u8 0, .int .u8 0, .int .u8 0, .int .u8 0], 2, .i64, some [5, 5, 5, 5, 5, 5, 5, 5, 5, 5, 5, 5, 5, 5, 5, 5, 5, 5, 5, 5, 5, 5, 5, 5, 5, 5, 5, 5, 5, 5, 5, 5]⟩),
  (99, ⟨true, 64, [], 5, 1, 1, 64, [.int .u8 0, .int .u8 0, .int .u8 0, .int .u8 0, .int .u8 0, .int .u8 0, .int .u8 0, .int .u8 0, .int .u8 0, .int .u8 0, .int .u8 0, .int .u8 0, .int .u8 0, .int .u8 0, .int .u8 0, .int .u8 0, .int .u8 0, .int .u8 0, .int .u8 0, .int .u8 0, .int .u8 0, .int .u8 0, .int .u8 0, .int .u8 0, .int .u8 0, .int .u8 0, .int .u8 0, .int .u8 0, .int .u8 0, .int .u8 0, .int .u8 0, .int .u8 0, .int .u8 0, .int .u8 0, .int .u8 0, .int .u8 0, .int .u8 0, .int .u8 0, .int .u8 0, .int .u8 0, .int .u8 0, .int .u8 0, .int .u8 0, .int .u8 0, .int .u8 0, .int .u8 0, .int .u8 0, .int .u8 0, .int .u8 0, .int .u8 0, .int .u8 0, .int .u8 0, .int .u8 0, .int .u8 0, .int .u8 0, .int .u8 0, .int .u8 0, .int .u8 0, .int .u8 0, .int .u8 0, .int .u8 0, .int .u8 0, .int .u8 0, .int .u8 0], 2, .i64, some [5, 5, 5, 5, 5, 5, 5, 5, 5, 5, 5, 5, 5, 5, 5, 5, 5, 5, 5, 5, 5, 5, 5, 5, 5, 5, 5, 5, 5, 5, 5, 5, 5, 5, 5, 5, 5, 5, 5, 5, 5, 5, 5, 5, 5, 5, 5, 5, 5, 5, 5, 5, 5, 5, 5, 5, 5, 5, 5, 5, 5, 5, 5, 5]⟩),
  (102, ⟨true, 0, [], 16, 1, 8, 0, [], 2, .i64, none⟩),
  (105, ⟨false, 1, [], 0, 0, 0, 0, [.nilfn], 0, .i64, none⟩),
  (108, ⟨false, 1, [], 0, 0, 0, 0, [.nilfn], 0, .i64, none⟩),
  (111, ⟨true, 11, [(0, 1), (1, 1), (2, 1), (3, 1), (4, 1), (5, 1), (6, 1), (7, 1), (8, 1), (9, 1), (10, 1)], 0, 0, 0, 0, [.int .u64 0, .int .u64 0, .int .u32 0, .int .u8 0, .int .u8 0, .int .u8 0, .int .u8 0, .nilfn, .nilp, .int .i32 0, .int .i32 0], 1, .i64, none⟩)
]
theorem ttok : TTok Tryd.prog tt := TTok.of_map (by kernel_rfl)
end Go.Proofs.YtfhdmhoeopbhnaaDoor
namespace Go.Proofs.YtfhdmhoeopbhnaaDoor
open Go.Proofs.YtfhdmhoeopbhnaaDoor.Am
open Go.RowKit (Below)

/-! ### The library's functions, as contracts -/
theorem tab_below {w w' : World} (h : Lib.TabIs Tryd.prog w "internal/strconv.uint64pow10" .u64 Lib.pow10Tab) (hb : Below w.heap.size w w') : Lib.TabIs Tryd.prog w' "internal/strconv.uint64pow10" .u64 Lib.pow10Tab := by
  unfold Lib.TabIs World.var? at h ⊢
  generalize hg : Tryd.prog.globalNamed "internal/strconv.uint64pow10" = g at h ⊢
  cases g with
  | none => simp at h
  | some g =>
    simp only [Option.bind_some] at h ⊢
    have hlt : g < w.heap.size := by
      rcases Nat.lt_or_ge g w.heap.size with h' | h'
      · exact h'
      · rw [Array.getElem?_eq_none h'] at h; cases h
    rw [hb.block g hlt]; exact h
def GD : GInv := ⟨fun w => Lib.TabIs Tryd.prog w "internal/strconv.uint64pow10" .u64 Lib.pow10Tab, fun _ _ h hb => tab_below h hb⟩

theorem cutPrefix_c (s p : List UInt8) : ACalls Tryd.prog GD 28 [.str s, .str p] (.tup [.str (Lib.trimPrefix s p), .sb (Lib.hasPrefix s p)]) := by
  refine ⟨⟨Tryd.f28, _, Tryd.func28, rfl, by kernel_rfl⟩, ?_⟩
  intro im w vs him hG hl hr
  have h0 := hr 0 (by simp) (by simp [hl])
  have h1 := hr 1 (by simp) (by simp [hl])
  match vs, hl with
  | [a, b], _ =>
    simp only [List.getElem_cons_zero, List.getElem_cons_succ] at h0 h1
    cases h0; cases h1
    refine Calls_mono (Tryd.strings_CutPrefix ⟨s.toArray⟩ ⟨p.toArray⟩ w) ?_
    rintro e w' ⟨rfl, rfl⟩
    refine ⟨_, rfl, ?_, Below.refl _ _⟩
    refine .tup _ [.string ⟨(Lib.trimPrefix s p).toArray⟩, .bool (Lib.hasPrefix s p)] rfl ?_
    intro j h h'
    match j with
    | 0 => exact .str _
    | 1 => exact .sb _
    | j + 2 => exact absurd h (by simp)

theorem itoa_c (n : Int) (h0 : -9223372036854775808 ≤ n) (h1 : n ≤ 9223372036854775807) : ACalls Tryd.prog GD 27 [.int .i64 n] (.str (Lib.itoa n)) := by
  refine ⟨⟨Tryd.f27, _, Tryd.func27, rfl, by kernel_rfl⟩, ?_⟩
  intro im w vs him hG hl hr
  have hr0 := hr 0 (by simp) (by simp [hl])
  match vs, hl with
  | [a], _ =>
    simp only [List.getElem_cons_zero] at hr0
    cases hr0
    refine Calls_mono (Tryd.strconv_Itoa n h0 h1 w hG) ?_
    rintro e w' ⟨rfl, k, os, rfl⟩
    refine ⟨_, rfl, .str _, ⟨rfl, rfl, rfl, ?_, fun k hk => ?_⟩⟩
    · simp [Go.Sort.grow]
    · exact Go.Sort.heap_grow_old _ _ hk

/-! ### The walks -/
def dg (c : UInt8) : Int := IntKind.wrap .i64 (IntKind.wrap .u8 ((c.toNat : Int) - 48))
def valW (s : List UInt8) : Nat → Int
  | 0 => 0
  | n + 1 => IntKind.wrap .i64 (IntKind.wrap .i64 (10 * valW s n) + dg (s.getD n 0))
theorem i64_in {n : Int} (h : -9223372036854775808 ≤ n ∧ n ≤ 9223372036854775807) : IntKind.i64.wrap n = n := by rw [IntKind.wrap_i64]; omega
theorem value_c (s : List UInt8) (hl : s.length ≤ 4611686018427387904) : ACalls Tryd.prog GD 30 [.str s] (.int .i64 (valW s s.length)) := by
  refine ACalls.of_WA ttok Tryd.func30 rfl rfl _ rfl ?_
  conv => whnf
  repeat (first | refine WA_seq ?_ | (refine WA_region ttok ?_; conv => whnf) | (refine WA_cond ?_; conv => whnf) | refine WA_block ?_ | (refine WA_skip ?_; conv => whnf) | (refine WA_exit ?_; conv => whnf) | (refine WA_ret ?_; conv => whnf))
  refine WA_loopI (fun i : Nat => i ≤ s.length) (fun i => [(3, .int .i64 (valW s i)), (7, .int .i64 (i : Int))]) (fun _ => []) (fun i => s.length - i) 0 (by omega) ?_ ?_
  · conv => whnf
    repeat (first | exact rfl | exact trivial | (refine And.intro rfl ?_; conv => whnf) | (refine And.intro ?_ ?_; rotate_left; conv => whnf))
  · intro i hi
    conv => whnf
    repeat (first | refine WA_seq ?_ | (refine WA_region ttok ?_; conv => whnf) | (refine WA_cond ?_; conv => whnf) | refine WA_block ?_ | (refine WA_skip ?_; conv => whnf) | (refine WA_exit ?_; conv => whnf) | (refine WA_ret ?_; conv => whnf))
    refine ⟨fun h => ?_, fun h => ?_⟩
    · have h := of_decide_eq_true h
      conv => whnf
      repeat (first | refine WA_seq ?_ | (refine WA_region ttok ?_; conv => whnf) | (refine WA_cond ?_; conv => whnf) | refine WA_block ?_ | (refine WA_skip ?_; conv => whnf) | (refine WA_exit ?_; conv => whnf) | (refine WA_ret ?_; conv => whnf))
      refine ⟨by omega, ?_⟩
      conv => whnf
      repeat (first | refine WA_seq ?_ | (refine WA_region ttok ?_; conv => whnf) | (refine WA_cond ?_; conv => whnf) | refine WA_block ?_ | (refine WA_skip ?_; conv => whnf) | (refine WA_exit ?_; conv => whnf) | (refine WA_ret ?_; conv => whnf))
      refine ⟨i + 1, by omega, (by show s.length - (i + 1) < s.length - i; omega), ?_⟩
      conv => whnf
      repeat (first | exact rfl | exact trivial | (refine And.intro rfl ?_; conv => whnf) | (refine And.intro ?_ ?_; rotate_left; conv => whnf))
      exact i64_in (by omega)
    · have h := of_decide_eq_false h
      conv => whnf
      repeat (first | refine WA_seq ?_ | (refine WA_region ttok ?_; conv => whnf) | (refine WA_cond ?_; conv => whnf) | refine WA_block ?_ | (refine WA_skip ?_; conv => whnf) | (refine WA_exit ?_; conv => whnf) | (refine WA_ret ?_; conv => whnf))
      repeat (first | exact rfl | exact trivial | (refine And.intro rfl ?_; conv => whnf) | (refine And.intro ?_ ?_; rotate_left; conv => whnf))
      rw [show i = s.length by omega]

def isD (c : UInt8) : Prop := 48 ≤ c.toNat ∧ c.toNat ≤ 57
instance (c : UInt8) : Decidable (isD c) := inferInstanceAs (Decidable (_ ∧ _))
def digP (s : List UInt8) : Prop := s ≠ [] ∧ ¬ (s.getD 0 0 = 48 ∧ 1 < s.length) ∧ ∀ j, j < s.length → isD (s.getD j 0)
instance (s : List UInt8) : Decidable (digP s) := inferInstanceAs (Decidable (_ ∧ _))
theorem u8_48 (c : UInt8) : (c.toNat : Int) = 48 ↔ c = 48 := by
  constructor
  · intro h; apply UInt8.toNat_inj.1; simpa using (by omega : c.toNat = 48)
  · intro h; subst h; rfl
theorem digits_c (s : List UInt8) (hl : s.length ≤ 4611686018427387904) : ACalls Tryd.prog GD 29 [.str s] (.sb (decide (digP s))) := by
  refine ACalls.of_WA ttok Tryd.func29 rfl rfl _ rfl ?_
  conv => whnf
  repeat (first | refine WA_seq ?_ | (refine WA_region ttok ?_; conv => whnf) | (refine WA_cond ?_; conv => whnf) | refine WA_block ?_ | (refine WA_skip ?_; conv => whnf) | (refine WA_exit ?_; conv => whnf) | (refine WA_ret ?_; conv => whnf))
  refine ⟨fun h0 => ?_, fun h0 => ?_⟩
  · have hne : s ≠ [] := by simpa using h0
    have hpos : 0 < s.length := List.length_pos_iff.2 hne
    conv => whnf
    refine ⟨by omega, ?_⟩
    conv => whnf
    refine ⟨fun h1 => ?_, fun h1 => ?_⟩
    · have h1 : s.getD 0 0 = 48 := (u8_48 _).1 (by simpa using h1)
      conv => whnf
      repeat (first | refine WA_seq ?_ | (refine WA_region ttok ?_; conv => whnf) | (refine WA_cond ?_; conv => whnf) | refine WA_block ?_ | (refine WA_skip ?_; conv => whnf) | (refine WA_exit ?_; conv => whnf) | (refine WA_ret ?_; conv => whnf))
      refine ⟨fun h2 => ?_, fun h2 => ?_⟩
      · have h2 := of_decide_eq_true h2
        conv => whnf
        repeat (first | refine WA_seq ?_ | (refine WA_region ttok ?_; conv => whnf) | (refine WA_cond ?_; conv => whnf) | refine WA_block ?_ | (refine WA_skip ?_; conv => whnf) | (refine WA_exit ?_; conv => whnf) | (refine WA_ret ?_; conv => whnf))
        refine (decide_eq_false ?_).symm
        intro h
        exact h.2.1 ⟨h1, by omega⟩
      · have h2 := of_decide_eq_false h2
        have hz : ¬ (s.getD 0 0 = 48 ∧ 1 < s.length) := by omega
        conv => whnf
        repeat (first | refine WA_seq ?_ | (refine WA_region ttok ?_; conv => whnf) | (refine WA_cond ?_; conv => whnf) | refine WA_block ?_ | (refine WA_skip ?_; conv => whnf) | (refine WA_exit ?_; conv => whnf) | (refine WA_ret ?_; conv => whnf))
        refine WA_loopI (fun i : Nat => i ≤ s.length ∧ ∀ j, j < i → isD (s.getD j 0)) (fun i => [(18, .int .i64 (i : Int))]) (fun _ => []) (fun i => s.length - i) 0 ⟨by omega, fun j hj => by omega⟩ ?_ ?_
        · conv => whnf
          repeat (first | exact rfl | exact trivial | (refine And.intro rfl ?_; conv => whnf) | (refine And.intro ?_ ?_; rotate_left; conv => whnf))
        · intro i hi
          obtain ⟨hi, hd⟩ := hi
          conv => whnf
          repeat (first | refine WA_seq ?_ | (refine WA_region ttok ?_; conv => whnf) | (refine WA_cond ?_; conv => whnf) | refine WA_block ?_ | (refine WA_skip ?_; conv => whnf) | (refine WA_exit ?_; conv => whnf) | (refine WA_ret ?_; conv => whnf))
          refine ⟨fun h => ?_, fun h => ?_⟩
          · have h := of_decide_eq_true h
            conv => whnf
            repeat (first | refine WA_seq ?_ | (refine WA_region ttok ?_; conv => whnf) | (refine WA_cond ?_; conv => whnf) | refine WA_block ?_ | (refine WA_skip ?_; conv => whnf) | (refine WA_exit ?_; conv => whnf) | (refine WA_ret ?_; conv => whnf))
            refine ⟨by omega, ?_⟩
            conv => whnf
            have e : (Int.toNat (i : Int)) = i := by omega
            refine ⟨fun h3 => ?_, fun h3 => ?_⟩
            · have h3 := of_decide_eq_false h3
              conv => whnf
              refine ⟨by omega, ?_⟩
              conv => whnf
              repeat (first | refine WA_seq ?_ | (refine WA_region ttok ?_; conv => whnf) | (refine WA_cond ?_; conv => whnf) | refine WA_block ?_ | (refine WA_skip ?_; conv => whnf) | (refine WA_exit ?_; conv => whnf) | (refine WA_ret ?_; conv => whnf))
              refine ⟨fun h4 => ?_, fun h4 => ?_⟩
              · have h4 := of_decide_eq_true h4
                conv => whnf
                repeat (first | refine WA_seq ?_ | (refine WA_region ttok ?_; conv => whnf) | (refine WA_cond ?_; conv => whnf) | refine WA_block ?_ | (refine WA_skip ?_; conv => whnf) | (refine WA_exit ?_; conv => whnf) | (refine WA_ret ?_; conv => whnf))
                refine (decide_eq_false ?_).symm
                intro hh
                have := (hh.2.2 i (by omega)).2
                rw [e] at h4
                omega
              · have h4 := of_decide_eq_false h4
                conv => whnf
                repeat (first | refine WA_seq ?_ | (refine WA_region ttok ?_; conv => whnf) | (refine WA_cond ?_; conv => whnf) | refine WA_block ?_ | (refine WA_skip ?_; conv => whnf) | (refine WA_exit ?_; conv => whnf) | (refine WA_ret ?_; conv => whnf))
                refine ⟨i + 1, ⟨by omega, ?_⟩, (by show s.length - (i + 1) < s.length - i; omega), ?_⟩
                · intro j hj
                  rcases Nat.lt_or_ge j i with h5 | h5
                  · exact hd j h5
                  · have : j = i := by omega
                    subst this
                    rw [e] at h3 h4
                    exact ⟨by omega, by omega⟩
                · conv => whnf
                  repeat (first | exact rfl | exact trivial | (refine And.intro rfl ?_; conv => whnf) | (refine And.intro ?_ ?_; rotate_left; conv => whnf))
                  exact i64_in (by omega)
            · have h3 := of_decide_eq_true h3
              conv => whnf
              repeat (first | refine WA_seq ?_ | (refine WA_region ttok ?_; conv => whnf) | (refine WA_cond ?_; conv => whnf) | refine WA_block ?_ | (refine WA_skip ?_; conv => whnf) | (refine WA_exit ?_; conv => whnf) | (refine WA_ret ?_; conv => whnf))
              refine (decide_eq_false ?_).symm
              intro hh
              have := (hh.2.2 i (by omega)).1
              rw [e] at h3
              omega
          · have h := of_decide_eq_false h
            conv => whnf
            repeat (first | refine WA_seq ?_ | (refine WA_region ttok ?_; conv => whnf) | (refine WA_cond ?_; conv => whnf) | refine WA_block ?_ | (refine WA_skip ?_; conv => whnf) | (refine WA_exit ?_; conv => whnf) | (refine WA_ret ?_; conv => whnf))
            refine (decide_eq_true ?_).symm
            exact ⟨hne, hz, fun j hj => hd j (by omega)⟩
    · have h1 : ¬ s.getD 0 0 = 48 := fun h => by
        have := (u8_48 _).2 h
        simp at h1 this; exact h1 this
      have hz : ¬ (s.getD 0 0 = 48 ∧ 1 < s.length) := fun h => h1 h.1
      conv => whnf
      repeat (first | refine WA_seq ?_ | (refine WA_region ttok ?_; conv => whnf) | (refine WA_cond ?_; conv => whnf) | refine WA_block ?_ | (refine WA_skip ?_; conv => whnf) | (refine WA_exit ?_; conv => whnf) | (refine WA_ret ?_; conv => whnf))
      refine WA_loopI (fun i : Nat => i ≤ s.length ∧ ∀ j, j < i → isD (s.getD j 0)) (fun i => [(18, .int .i64 (i : Int))]) (fun _ => []) (fun i => s.length - i) 0 ⟨by omega, fun j hj => by omega⟩ ?_ ?_
      · conv => whnf
        repeat (first | exact rfl | exact trivial | (refine And.intro rfl ?_; conv => whnf) | (refine And.intro ?_ ?_; rotate_left; conv => whnf))
      · intro i hi
        obtain ⟨hi, hd⟩ := hi
        conv => whnf
        repeat (first | refine WA_seq ?_ | (refine WA_region ttok ?_; conv => whnf) | (refine WA_cond ?_; conv => whnf) | refine WA_block ?_ | (refine WA_skip ?_; conv => whnf) | (refine WA_exit ?_; conv => whnf) | (refine WA_ret ?_; conv => whnf))
        refine ⟨fun h => ?_, fun h => ?_⟩
        · have h := of_decide_eq_true h
          conv => whnf
          repeat (first | refine WA_seq ?_ | (refine WA_region ttok ?_; conv => whnf) | (refine WA_cond ?_; conv => whnf) | refine WA_block ?_ | (refine WA_skip ?_; conv => whnf) | (refine WA_exit ?_; conv => whnf) | (refine WA_ret ?_; conv => whnf))
          refine ⟨by omega, ?_⟩
          conv => whnf
          have e : (Int.toNat (i : Int)) = i := by omega
          refine ⟨fun h3 => ?_, fun h3 => ?_⟩
          · have h3 := of_decide_eq_false h3
            conv => whnf
            refine ⟨by omega, ?_⟩
            conv => whnf
            repeat (first | refine WA_seq ?_ | (refine WA_region ttok ?_; conv => whnf) | (refine WA_cond ?_; conv => whnf) | refine WA_block ?_ | (refine WA_skip ?_; conv => whnf) | (refine WA_exit ?_; conv => whnf) | (refine WA_ret ?_; conv => whnf))
            refine ⟨fun h4 => ?_, fun h4 => ?_⟩
            · have h4 := of_decide_eq_true h4
              conv => whnf
              repeat (first | refine WA_seq ?_ | (refine WA_region ttok ?_; conv => whnf) | (refine WA_cond ?_; conv => whnf) | refine WA_block ?_ | (refine WA_skip ?_; conv => whnf) | (refine WA_exit ?_; conv => whnf) | (refine WA_ret ?_; conv => whnf))
              refine (decide_eq_false ?_).symm
              intro hh
              have := (hh.2.2 i (by omega)).2
              rw [e] at h4
              omega
            · have h4 := of_decide_eq_false h4
              conv => whnf
              repeat (first | refine WA_seq ?_ | (refine WA_region ttok ?_; conv => whnf) | (refine WA_cond ?_; conv => whnf) | refine WA_block ?_ | (refine WA_skip ?_; conv => whnf) | (refine WA_exit ?_; conv => whnf) | (refine WA_ret ?_; conv => whnf))
              refine ⟨i + 1, ⟨by omega, ?_⟩, (by show s.length - (i + 1) < s.length - i; omega), ?_⟩
              · intro j hj
                rcases Nat.lt_or_ge j i with h5 | h5
                · exact hd j h5
                · have : j = i := by omega
                  subst this
                  rw [e] at h3 h4
                  exact ⟨by omega, by omega⟩
              · conv => whnf
                repeat (first | exact rfl | exact trivial | (refine And.intro rfl ?_; conv => whnf) | (refine And.intro ?_ ?_; rotate_left; conv => whnf))
                exact i64_in (by omega)
          · have h3 := of_decide_eq_true h3
            conv => whnf
            repeat (first | refine WA_seq ?_ | (refine WA_region ttok ?_; conv => whnf) | (refine WA_cond ?_; conv => whnf) | refine WA_block ?_ | (refine WA_skip ?_; conv => whnf) | (refine WA_exit ?_; conv => whnf) | (refine WA_ret ?_; conv => whnf))
            refine (decide_eq_false ?_).symm
            intro hh
            have := (hh.2.2 i (by omega)).1
            rw [e] at h3
            omega
        · have h := of_decide_eq_false h
          conv => whnf
          repeat (first | refine WA_seq ?_ | (refine WA_region ttok ?_; conv => whnf) | (refine WA_cond ?_; conv => whnf) | refine WA_block ?_ | (refine WA_skip ?_; conv => whnf) | (refine WA_exit ?_; conv => whnf) | (refine WA_ret ?_; conv => whnf))
          refine (decide_eq_true ?_).symm
          exact ⟨hne, hz, fun j hj => hd j (by omega)⟩
  · have hne : s = [] := by simpa using h0
    subst hne
    conv => whnf
    repeat (first | refine WA_seq ?_ | (refine WA_region ttok ?_; conv => whnf) | (refine WA_cond ?_; conv => whnf) | refine WA_block ?_ | (refine WA_skip ?_; conv => whnf) | (refine WA_exit ?_; conv => whnf) | (refine WA_ret ?_; conv => whnf))
    rfl
end Go.Proofs.YtfhdmhoeopbhnaaDoor
namespace Go.Proofs.YtfhdmhoeopbhnaaDoor
open Go.Proofs.YtfhdmhoeopbhnaaDoor.Am
open Go.RowKit (Below)

theorem text_c (n : Int) (h0 : -9223372036854775808 ≤ n) (h1 : n ≤ 9223372036854775807) : ACalls Tryd.prog GD 8 [.int .i64 n] (.str (Lib.itoa n)) := by
  refine ACalls.of_WA ttok Tryd.func8 rfl rfl _ rfl ?_
  conv => whnf
  repeat' (first | refine WA_seq ?_ | (refine WA_region ttok ?_; conv => whnf) | (refine WA_cond ?_; conv => whnf) | refine WA_block ?_ | (refine WA_skip ?_; conv => whnf) | (refine WA_exit ?_; conv => whnf) | (refine WA_ret ?_; conv => whnf) | (refine And.intro (fun _ => ?_) (fun _ => ?_) <;> conv => whnf) | (refine Exists.intro _ (And.intro (itoa_c n h0 h1) ?_); conv => whnf) | (refine And.intro ?_ ?_; focus (first | omega | (simp at *; omega)); conv => whnf))
  repeat (first | exact rfl | exact trivial | (refine And.intro rfl ?_; conv => whnf) | (refine And.intro ?_ ?_; rotate_left; conv => whnf))

def parseF (s : List UInt8) : Int × Int :=
  if ¬ digP (Lib.trimPrefix s [45]) then (0, 2) else
  if Lib.hasPrefix s [45] = true ∧ Lib.trimPrefix s [45] = [48] then (0, 2) else
  if (19 : Int) < ((Lib.trimPrefix s [45]).length : Int) then (0, 6) else
  if ((Lib.trimPrefix s [45]).length : Int) = 19 ∧ (!(Op.bytesLess (Lib.trimPrefix s [45]) (Lib.itoa 1152921504606846976) || Lib.trimPrefix s [45] == Lib.itoa 1152921504606846976)) = true then (0, 6) else
  if Lib.hasPrefix s [45] = true then (IntKind.wrap .i64 (0 - valW (Lib.trimPrefix s [45]) (Lib.trimPrefix s [45]).length), 0) else
  (valW (Lib.trimPrefix s [45]) (Lib.trimPrefix s [45]).length, 0)
theorem trim_len (s : List UInt8) : (Lib.trimPrefix s [45]).length ≤ s.length := by unfold Lib.trimPrefix; split <;> simp
theorem parse_c (s : List UInt8) (hl : s.length ≤ 4611686018427387904) : ACalls Tryd.prog GD 10 [.str s] (.tup [.int .i64 (parseF s).1, .int .i64 (parseF s).2]) := by
  have hl' := Nat.le_trans (trim_len s) hl
  refine ACalls.of_WA ttok Tryd.func10 rfl rfl _ rfl ?_
  conv => whnf
  repeat' (first | refine WA_seq ?_ | (refine WA_region ttok ?_; conv => whnf) | (refine WA_cond ?_; conv => whnf) | refine WA_block ?_ | (refine WA_skip ?_; conv => whnf) | (refine WA_exit ?_; conv => whnf) | (refine WA_ret ?_; conv => whnf) | (refine And.intro (fun _ => ?_) (fun _ => ?_) <;> conv => whnf) | (refine Exists.intro _ (And.intro (cutPrefix_c _ _) ?_); conv => whnf) | (refine Exists.intro _ (And.intro (digits_c _ hl') ?_); conv => whnf) | (refine Exists.intro _ (And.intro (value_c _ hl') ?_); conv => whnf) | (refine Exists.intro _ (And.intro (itoa_c _ (by decide) (by decide)) ?_); conv => whnf) | (refine And.intro ?_ ?_; focus (first | omega | (simp at *; omega)); conv => whnf))
  all_goals clear hl hl'
  all_goals simp only [andL, fitA.fitL, List.append]
  all_goals (simp at *; (simp_all [parseF]; try omega))
  · rename_i hx; rw [if_neg (fun h => h.2 (hx h.1))]; exact ⟨rfl, rfl⟩
  · rw [if_neg (by omega)]; exact ⟨rfl, rfl⟩
  · rename_i hx; rw [if_neg (fun h => h.2 (hx h.1))]; exact ⟨rfl, rfl⟩
  · rw [if_neg (by omega)]; exact ⟨rfl, rfl⟩

theorem itoa_len (n : Int) (h0 : -9223372036854775808 ≤ n) (h1 : n ≤ 9223372036854775807) : (Lib.itoa n).length ≤ 21 := Lib.itoa_length_le n h0 h1
theorem digitsN_c (n : Int) (h0 : -9223372036854775808 ≤ n) (h1 : n ≤ 9223372036854775807) : ACalls Tryd.prog GD 11 [.int .i64 n] (.int .i64 (if n < 0 then ((Lib.itoa n).length : Int) - 1 else ((Lib.itoa n).length : Int))) := by
  have hl := itoa_len n h0 h1
  refine ACalls.of_WA ttok Tryd.func11 rfl rfl _ rfl ?_
  conv => whnf
  repeat' (first | refine WA_seq ?_ | (refine WA_region ttok ?_; conv => whnf) | (refine WA_cond ?_; conv => whnf) | refine WA_block ?_ | (refine WA_skip ?_; conv => whnf) | (refine WA_exit ?_; conv => whnf) | (refine WA_ret ?_; conv => whnf) | (refine And.intro (fun _ => ?_) (fun _ => ?_) <;> conv => whnf) | (refine Exists.intro _ (And.intro (text_c n h0 h1) ?_); conv => whnf) | (refine And.intro ?_ ?_; focus (first | omega | (simp at *; omega)); conv => whnf))
  all_goals (simp only [decide_eq_true_eq, decide_eq_false_iff_not] at *)
  · rw [if_pos (by omega)]; exact i64_in (by omega)
  · rw [if_neg (by omega)]

theorem itoa_a : Lib.itoa (-105) = [45, 49, 48, 53] := by
  unfold Lib.itoa; rw [if_pos (by decide)]
  simp [Lib.decDigits]
theorem parse_a : parseF [45, 49, 48, 53] = (-105, 0) := by decide
theorem parse_b : parseF [45, 48] = (0, 2) := by decide
theorem awake_c : ACalls Tryd.prog GD 12 [] (.sb true) := by
  refine ACalls.of_WA ttok Tryd.func12 rfl rfl _ rfl ?_
  conv => whnf
  repeat' (first | refine WA_seq ?_ | (refine WA_region ttok ?_; conv => whnf) | (refine WA_cond ?_; conv => whnf) | refine WA_block ?_ | (refine WA_skip ?_; conv => whnf) | (refine WA_exit ?_; conv => whnf) | (refine WA_ret ?_; conv => whnf) | (refine And.intro (fun _ => ?_) (fun _ => ?_) <;> conv => whnf) | (refine Exists.intro _ (And.intro (parse_c _ (by decide)) ?_); conv => whnf) | (refine Exists.intro _ (And.intro (text_c _ (by decide) (by decide)) ?_); conv => whnf) | (refine Exists.intro _ (And.intro (digitsN_c _ (by decide) (by decide)) ?_); conv => whnf) | (refine And.intro ?_ ?_; focus (first | omega | (simp at *; omega)); conv => whnf))
  all_goals simp [itoa_a, parse_a, parse_b] at *
end Go.Proofs.YtfhdmhoeopbhnaaDoor
namespace Go.Proofs.YtfhdmhoeopbhnaaDoor
open Go.Proofs.YtfhdmhoeopbhnaaDoor.Am
open Go.RowKit (Below)

theorem numOne_of (law : ∀ s : List UInt8, s.length ≤ 300 → (parseF s).2 = 0 → Lib.itoa (parseF s).1 = s) (rng : ∀ s : List UInt8, -9223372036854775808 ≤ (parseF s).1 ∧ (parseF s).1 ≤ 9223372036854775807) (s : List UInt8) : ACalls Tryd.prog GD 4 [.str s] (.sb true) := by
  refine ACalls.of_WA ttok Tryd.func4 rfl rfl _ rfl ?_
  conv => whnf
  repeat (first | refine WA_seq ?_ | (refine WA_region ttok ?_; conv => whnf) | (refine WA_cond ?_; conv => whnf) | refine WA_block ?_ | (refine WA_skip ?_; conv => whnf) | (refine WA_exit ?_; conv => whnf) | (refine WA_ret ?_; conv => whnf))
  refine ⟨fun h => ?_, fun h => ?_⟩
  · conv => whnf
    repeat' (first | refine WA_seq ?_ | (refine WA_region ttok ?_; conv => whnf) | (refine WA_cond ?_; conv => whnf) | refine WA_block ?_ | (refine WA_skip ?_; conv => whnf) | (refine WA_exit ?_; conv => whnf) | (refine WA_ret ?_; conv => whnf) | (refine And.intro (fun _ => ?_) (fun _ => ?_) <;> conv => whnf) | (refine Exists.intro _ (And.intro (awake_c) ?_); conv => whnf) | (refine And.intro ?_ ?_; focus (first | omega | (simp at *; omega)); conv => whnf))
    repeat (first | exact rfl | exact trivial | (refine And.intro rfl ?_; conv => whnf) | (refine And.intro ?_ ?_; rotate_left; conv => whnf))
  · have hl := of_decide_eq_false h
    have hl' : s.length ≤ 4611686018427387904 := by omega
    conv => whnf
    repeat' (first | refine WA_seq ?_ | (refine WA_region ttok ?_; conv => whnf) | (refine WA_cond ?_; conv => whnf) | refine WA_block ?_ | (refine WA_skip ?_; conv => whnf) | (refine WA_exit ?_; conv => whnf) | (refine WA_ret ?_; conv => whnf) | (refine And.intro (fun _ => ?_) (fun _ => ?_) <;> conv => whnf) | (refine Exists.intro _ (And.intro (awake_c) ?_); conv => whnf) | (refine Exists.intro _ (And.intro (parse_c s hl') ?_); conv => whnf) | (refine Exists.intro _ (And.intro (text_c _ (rng s).1 (rng s).2) ?_); conv => whnf) | (refine And.intro ?_ ?_; focus (first | omega | (simp at *; omega)); conv => whnf))
    have := law s (by omega)
    simp_all

/-! ### snicketref01.Text -/
def ten : List UInt8 := [48, 49, 50, 51, 52, 53, 54, 55, 56, 57]
theorem ten_at : ∀ v, v < 10 → (ten.take (v + 1)).drop v = [UInt8.ofNat (48 + v)] := by decide
theorem ten_at' (x y : Int) (v : Nat) (hv : v < 10) (hx : x = v) (hy : y = v + 1) : (ten.take y.toNat).drop x.toNat = [UInt8.ofNat (48 + v)] := by
  subst hx; subst hy
  have := ten_at v hv
  simpa using this
theorem decDigits_step (u : Nat) (h : ¬ u < 10) : Lib.decDigits u = Lib.decDigits (u / 10) ++ [UInt8.ofNat (48 + u % 10)] := by rw [Lib.decDigits, dif_neg h]
theorem tmod_pos (u : Nat) : Int.tmod (u : Int) 10 = ((u % 10 : Nat) : Int) := rfl
theorem tdiv_pos (u : Nat) : Int.tdiv (u : Int) 10 = ((u / 10 : Nat) : Int) := rfl
theorem tmod_neg (u : Nat) : Int.tmod (-(u : Int)) 10 = -((u % 10 : Nat) : Int) := by rw [Int.neg_tmod, tmod_pos]
theorem tdiv_neg (u : Nat) : Int.tdiv (-(u : Int)) 10 = -((u / 10 : Nat) : Int) := by rw [Int.neg_tdiv, tdiv_pos]
theorem refText_c (n : Int) (h0 : -9223372036854775808 ≤ n) (h1 : n ≤ 9223372036854775807) : ACalls Tryd.prog GD 9 [.int .i64 n] (.str (Lib.itoa n)) := by
  have hlen := itoa_len n h0 h1
  refine ACalls.of_WA ttok Tryd.func9 rfl rfl _ rfl ?_
  conv => whnf
  repeat (first | refine WA_seq ?_ | (refine WA_region ttok ?_; conv => whnf) | (refine WA_cond ?_; conv => whnf) | refine WA_block ?_ | (refine WA_skip ?_; conv => whnf) | (refine WA_exit ?_; conv => whnf) | (refine WA_ret ?_; conv => whnf))
  refine ⟨fun h => ?_, fun h => ?_⟩
  · have hn := of_decide_eq_true h
    have hi : Lib.itoa n = 45 :: Lib.decDigits n.natAbs := by unfold Lib.itoa; rw [if_pos hn]
    conv => whnf
    repeat (first | refine WA_seq ?_ | (refine WA_region ttok ?_; conv => whnf) | (refine WA_cond ?_; conv => whnf) | refine WA_block ?_ | (refine WA_skip ?_; conv => whnf) | (refine WA_exit ?_; conv => whnf) | (refine WA_ret ?_; conv => whnf))
    refine WA_loopI (fun x : Nat × List UInt8 => Lib.decDigits x.1 ++ x.2 = Lib.decDigits n.natAbs ∧ x.1 ≤ n.natAbs) (fun x => [(0, .int .i64 (-(x.1 : Int))), (4, .str x.2)]) (fun _ => []) (fun x => x.1) (n.natAbs, []) ⟨by simp, Nat.le_refl _⟩ ?_ ?_
    · conv => whnf
      repeat (first | exact rfl | exact trivial | (refine And.intro rfl ?_; conv => whnf) | (refine And.intro ?_ ?_; rotate_left; conv => whnf))
      omega
    · rintro ⟨u, acc⟩ ⟨hacc, hu⟩
      have hacc : Lib.decDigits u ++ acc = Lib.decDigits n.natAbs := hacc
      have hu : u ≤ n.natAbs := hu
      have hla : acc.length ≤ 21 := by
        have := congrArg List.length hacc
        rw [hi] at hlen
        simp at this hlen; omega
      conv => whnf
      repeat (first | refine WA_seq ?_ | (refine WA_region ttok ?_; conv => whnf) | (refine WA_cond ?_; conv => whnf) | refine WA_block ?_ | (refine WA_skip ?_; conv => whnf) | (refine WA_exit ?_; conv => whnf) | (refine WA_ret ?_; conv => whnf))
      refine ⟨fun h => ?_, fun h => ?_⟩
      · have h : -(u : Int) ≤ -10 := of_decide_eq_true h
        have e1 : IntKind.i64.wrap (1 - (-(u : Int)).tmod 10) = ((u % 10 : Nat) : Int) + 1 := by rw [tmod_neg]; rw [i64_in (by omega)]; omega
        have e0 : IntKind.i64.wrap (0 - (-(u : Int)).tmod 10) = ((u % 10 : Nat) : Int) := by rw [tmod_neg]; rw [i64_in (by omega)]; omega
        have hs := ten_at' _ _ (u % 10) (by omega) e0 e1
        conv => whnf
        repeat (first | refine WA_seq ?_ | (refine WA_region ttok ?_; conv => whnf) | (refine WA_cond ?_; conv => whnf) | refine WA_block ?_ | (refine WA_skip ?_; conv => whnf) | (refine WA_exit ?_; conv => whnf) | (refine WA_ret ?_; conv => whnf))
        refine ⟨by decide, ?_⟩
        conv => whnf
        repeat (first | refine WA_seq ?_ | (refine WA_region ttok ?_; conv => whnf) | (refine WA_cond ?_; conv => whnf) | refine WA_block ?_ | (refine WA_skip ?_; conv => whnf) | (refine WA_exit ?_; conv => whnf) | (refine WA_ret ?_; conv => whnf))
        refine ⟨show 0 ≤ IntKind.i64.wrap (1 - (-(u : Int)).tmod 10) ∧ IntKind.i64.wrap (1 - (-(u : Int)).tmod 10) ≤ 10 from by rw [e1]; omega, ?_⟩
        conv => whnf
        refine ⟨show 0 ≤ IntKind.i64.wrap (0 - (-(u : Int)).tmod 10) ∧ IntKind.i64.wrap (0 - (-(u : Int)).tmod 10) ≤ (IntKind.i64.wrap (1 - (-(u : Int)).tmod 10)).toNat from by rw [e1, e0]; omega, ?_⟩
        conv => whnf
        refine ⟨show ((ten.take (IntKind.i64.wrap (1 - (-(u : Int)).tmod 10)).toNat).drop (IntKind.i64.wrap (0 - (-(u : Int)).tmod 10)).toNat).length + acc.length ≤ 9223372036854775807 from by rw [hs]; simp; omega, ?_⟩
        conv => whnf
        repeat (first | refine WA_seq ?_ | (refine WA_region ttok ?_; conv => whnf) | (refine WA_cond ?_; conv => whnf) | refine WA_block ?_ | (refine WA_skip ?_; conv => whnf) | (refine WA_exit ?_; conv => whnf) | (refine WA_ret ?_; conv => whnf))
        refine ⟨by decide, ?_⟩
        conv => whnf
        repeat (first | refine WA_seq ?_ | (refine WA_region ttok ?_; conv => whnf) | (refine WA_cond ?_; conv => whnf) | refine WA_block ?_ | (refine WA_skip ?_; conv => whnf) | (refine WA_exit ?_; conv => whnf) | (refine WA_ret ?_; conv => whnf))
        refine ⟨(u / 10, UInt8.ofNat (48 + u % 10) :: acc), ⟨?_, ?_⟩, ?_, ?_⟩
        · show Lib.decDigits (u / 10) ++ (UInt8.ofNat (48 + u % 10) :: acc) = _
          rw [← hacc, decDigits_step u (by omega)]; simp
        · show u / 10 ≤ n.natAbs; omega
        · show u / 10 < u; omega
        · conv => whnf
          repeat (first | exact rfl | exact trivial | (refine And.intro rfl ?_; conv => whnf) | (refine And.intro ?_ ?_; rotate_left; conv => whnf))
          · show IntKind.i64.wrap ((-(u : Int)).tdiv 10) = -((u / 10 : Nat) : Int)
            rw [tdiv_neg, i64_in (by omega)]
          · show (ten.take (IntKind.i64.wrap (1 - (-(u : Int)).tmod 10)).toNat).drop (IntKind.i64.wrap (0 - (-(u : Int)).tmod 10)).toNat ++ acc = _
            rw [hs]; rfl
      · have h : ¬ -(u : Int) ≤ -10 := of_decide_eq_false h
        have e1 : IntKind.i64.wrap (1 - (-(u : Int))) = (u : Int) + 1 := by rw [i64_in (by omega)]; omega
        have e0 : IntKind.i64.wrap (0 - (-(u : Int))) = (u : Int) := by rw [i64_in (by omega)]; omega
        have hs := ten_at' _ _ u (by omega) e0 e1
        conv => whnf
        repeat (first | refine WA_seq ?_ | (refine WA_region ttok ?_; conv => whnf) | (refine WA_cond ?_; conv => whnf) | refine WA_block ?_ | (refine WA_skip ?_; conv => whnf) | (refine WA_exit ?_; conv => whnf) | (refine WA_ret ?_; conv => whnf))
        refine ⟨show 0 ≤ IntKind.i64.wrap (1 - (-(u : Int))) ∧ IntKind.i64.wrap (1 - (-(u : Int))) ≤ 10 from by rw [e1]; omega, ?_⟩
        conv => whnf
        refine ⟨show 0 ≤ IntKind.i64.wrap (0 - (-(u : Int))) ∧ IntKind.i64.wrap (0 - (-(u : Int))) ≤ (IntKind.i64.wrap (1 - (-(u : Int)))).toNat from by rw [e1, e0]; omega, ?_⟩
        conv => whnf
        refine ⟨show 1 + ((ten.take (IntKind.i64.wrap (1 - (-(u : Int)))).toNat).drop (IntKind.i64.wrap (0 - (-(u : Int)))).toNat).length ≤ 9223372036854775807 from by rw [hs]; simp, ?_⟩
        conv => whnf
        refine ⟨show ([45] ++ (ten.take (IntKind.i64.wrap (1 - (-(u : Int)))).toNat).drop (IntKind.i64.wrap (0 - (-(u : Int)))).toNat).length + acc.length ≤ 9223372036854775807 from by rw [hs]; simp; omega, ?_⟩
        conv => whnf
        repeat (first | refine WA_seq ?_ | (refine WA_region ttok ?_; conv => whnf) | (refine WA_cond ?_; conv => whnf) | refine WA_block ?_ | (refine WA_skip ?_; conv => whnf) | (refine WA_exit ?_; conv => whnf) | (refine WA_ret ?_; conv => whnf))
        show [45] ++ (ten.take (IntKind.i64.wrap (1 - (-(u : Int)))).toNat).drop (IntKind.i64.wrap (0 - (-(u : Int)))).toNat ++ acc = _
        rw [hs, hi, ← hacc, Lib.decDigits_one (by omega)]; rfl
  · have hn := of_decide_eq_false h
    have hi : Lib.itoa n = Lib.decDigits n.toNat := by unfold Lib.itoa; rw [if_neg hn]
    conv => whnf
    repeat (first | refine WA_seq ?_ | (refine WA_region ttok ?_; conv => whnf) | (refine WA_cond ?_; conv => whnf) | refine WA_block ?_ | (refine WA_skip ?_; conv => whnf) | (refine WA_exit ?_; conv => whnf) | (refine WA_ret ?_; conv => whnf))
    refine WA_loopI (fun x : Nat × List UInt8 => Lib.decDigits x.1 ++ x.2 = Lib.decDigits n.toNat ∧ x.1 ≤ n.toNat) (fun x => [(0, .int .i64 (x.1 : Int)), (6, .str x.2)]) (fun _ => []) (fun x => x.1) (n.toNat, []) ⟨by simp, Nat.le_refl _⟩ ?_ ?_
    · conv => whnf
      repeat (first | exact rfl | exact trivial | (refine And.intro rfl ?_; conv => whnf) | (refine And.intro ?_ ?_; rotate_left; conv => whnf))
      omega
    · rintro ⟨u, acc⟩ ⟨hacc, hu⟩
      have hacc : Lib.decDigits u ++ acc = Lib.decDigits n.toNat := hacc
      have hu : u ≤ n.toNat := hu
      have hla : acc.length ≤ 21 := by
        have := congrArg List.length hacc
        rw [hi] at hlen
        simp at this hlen; omega
      conv => whnf
      repeat (first | refine WA_seq ?_ | (refine WA_region ttok ?_; conv => whnf) | (refine WA_cond ?_; conv => whnf) | refine WA_block ?_ | (refine WA_skip ?_; conv => whnf) | (refine WA_exit ?_; conv => whnf) | (refine WA_ret ?_; conv => whnf))
      refine ⟨fun h => ?_, fun h => ?_⟩
      · have h : (10 : Int) ≤ (u : Int) := of_decide_eq_true h
        have e1 : IntKind.i64.wrap ((u : Int).tmod 10 + 1) = ((u % 10 : Nat) : Int) + 1 := by rw [tmod_pos]; rw [i64_in (by omega)]
        have e0 : (u : Int).tmod 10 = ((u % 10 : Nat) : Int) := tmod_pos u
        have hs := ten_at' _ _ (u % 10) (by omega) e0 e1
        conv => whnf
        repeat (first | refine WA_seq ?_ | (refine WA_region ttok ?_; conv => whnf) | (refine WA_cond ?_; conv => whnf) | refine WA_block ?_ | (refine WA_skip ?_; conv => whnf) | (refine WA_exit ?_; conv => whnf) | (refine WA_ret ?_; conv => whnf))
        refine ⟨by decide, ?_⟩
        conv => whnf
        refine ⟨by decide, ?_⟩
        conv => whnf
        refine ⟨show 0 ≤ IntKind.i64.wrap ((u : Int).tmod 10 + 1) ∧ IntKind.i64.wrap ((u : Int).tmod 10 + 1) ≤ 10 from by rw [e1]; omega, ?_⟩
        conv => whnf
        refine ⟨show 0 ≤ (u : Int).tmod 10 ∧ (u : Int).tmod 10 ≤ (IntKind.i64.wrap ((u : Int).tmod 10 + 1)).toNat from by rw [e1, e0]; omega, ?_⟩
        conv => whnf
        refine ⟨show ((ten.take (IntKind.i64.wrap ((u : Int).tmod 10 + 1)).toNat).drop ((u : Int).tmod 10).toNat).length + acc.length ≤ 9223372036854775807 from by rw [hs]; simp; omega, ?_⟩
        conv => whnf
        repeat (first | refine WA_seq ?_ | (refine WA_region ttok ?_; conv => whnf) | (refine WA_cond ?_; conv => whnf) | refine WA_block ?_ | (refine WA_skip ?_; conv => whnf) | (refine WA_exit ?_; conv => whnf) | (refine WA_ret ?_; conv => whnf))
        refine ⟨by decide, ?_⟩
        conv => whnf
        repeat (first | refine WA_seq ?_ | (refine WA_region ttok ?_; conv => whnf) | (refine WA_cond ?_; conv => whnf) | refine WA_block ?_ | (refine WA_skip ?_; conv => whnf) | (refine WA_exit ?_; conv => whnf) | (refine WA_ret ?_; conv => whnf))
        refine ⟨(u / 10, UInt8.ofNat (48 + u % 10) :: acc), ⟨?_, ?_⟩, ?_, ?_⟩
        · show Lib.decDigits (u / 10) ++ (UInt8.ofNat (48 + u % 10) :: acc) = _
          rw [← hacc, decDigits_step u (by omega)]; simp
        · show u / 10 ≤ n.toNat; omega
        · show u / 10 < u; omega
        · conv => whnf
          repeat (first | exact rfl | exact trivial | (refine And.intro rfl ?_; conv => whnf) | (refine And.intro ?_ ?_; rotate_left; conv => whnf))
          · show IntKind.i64.wrap ((u : Int).tdiv 10) = ((u / 10 : Nat) : Int)
            rw [tdiv_pos, i64_in (by omega)]
          · show (ten.take (IntKind.i64.wrap ((u : Int).tmod 10 + 1)).toNat).drop ((u : Int).tmod 10).toNat ++ acc = _
            rw [hs]; rfl
      · have h : ¬ (10 : Int) ≤ (u : Int) := of_decide_eq_false h
        have e1 : IntKind.i64.wrap ((u : Int) + 1) = (u : Int) + 1 := by rw [i64_in (by omega)]
        have hs := ten_at' _ _ u (by omega) (rfl : (u : Int) = u) e1
        conv => whnf
        repeat (first | refine WA_seq ?_ | (refine WA_region ttok ?_; conv => whnf) | (refine WA_cond ?_; conv => whnf) | refine WA_block ?_ | (refine WA_skip ?_; conv => whnf) | (refine WA_exit ?_; conv => whnf) | (refine WA_ret ?_; conv => whnf))
        refine ⟨show 0 ≤ IntKind.i64.wrap ((u : Int) + 1) ∧ IntKind.i64.wrap ((u : Int) + 1) ≤ 10 from by rw [e1]; omega, ?_⟩
        conv => whnf
        refine ⟨show 0 ≤ (u : Int) ∧ (u : Int) ≤ (IntKind.i64.wrap ((u : Int) + 1)).toNat from by rw [e1]; omega, ?_⟩
        conv => whnf
        refine ⟨show ((ten.take (IntKind.i64.wrap ((u : Int) + 1)).toNat).drop (u : Int).toNat).length + acc.length ≤ 9223372036854775807 from by rw [hs]; simp; omega, ?_⟩
        conv => whnf
        repeat (first | refine WA_seq ?_ | (refine WA_region ttok ?_; conv => whnf) | (refine WA_cond ?_; conv => whnf) | refine WA_block ?_ | (refine WA_skip ?_; conv => whnf) | (refine WA_exit ?_; conv => whnf) | (refine WA_ret ?_; conv => whnf))
        show (ten.take (IntKind.i64.wrap ((u : Int) + 1)).toNat).drop (u : Int).toNat ++ acc = _
        rw [hs, hi, ← hacc, Lib.decDigits_one (by omega)]
end Go.Proofs.YtfhdmhoeopbhnaaDoor
namespace Go.Proofs.YtfhdmhoeopbhnaaDoor

/-! ### Numerals -/
def nval (s : List UInt8) : Nat := s.foldl (fun a c => 10 * a + (c.toNat - 48)) 0
theorem nval_snoc (t : List UInt8) (c : UInt8) : nval (t ++ [c]) = 10 * nval t + (c.toNat - 48) := by simp [nval]
theorem ofNat_toNat {v : Nat} (h : v < 10) : (UInt8.ofNat (48 + v)).toNat = 48 + v := by simp; omega
theorem dd_ind {p : Nat → Prop} (h1 : ∀ u, u < 10 → p u) (h2 : ∀ u, ¬ u < 10 → p (u / 10) → p u) : ∀ u, p u := by
  intro u
  induction u using Nat.strongRecOn with
  | _ u ih =>
    by_cases h : u < 10
    · exact h1 u h
    · exact h2 u h (ih _ (by omega))
theorem dd_one {u : Nat} (h : u < 10) : Lib.decDigits u = [UInt8.ofNat (48 + u)] := Lib.decDigits_one h
theorem dd_step {u : Nat} (h : ¬ u < 10) : Lib.decDigits u = Lib.decDigits (u / 10) ++ [UInt8.ofNat (48 + u % 10)] := by rw [Lib.decDigits, dif_neg h]
theorem nval_dd : ∀ u, nval (Lib.decDigits u) = u := by
  refine dd_ind ?_ ?_
  · intro u h; rw [dd_one h]; simp only [nval, List.foldl]; rw [ofNat_toNat h]; omega
  · intro u h ih; rw [dd_step h, nval_snoc, ih, ofNat_toNat (by omega)]; omega
theorem dd_digit : ∀ u, ∀ c ∈ Lib.decDigits u, isD c := by
  refine dd_ind ?_ ?_
  · intro u h; rw [dd_one h]; intro c hc; rw [List.mem_singleton] at hc; subst hc; have := ofNat_toNat h; exact ⟨by omega, by omega⟩
  · intro u h ih; rw [dd_step h]; intro c hc
    simp only [List.mem_append, List.mem_singleton] at hc
    rcases hc with hc | hc
    · exact ih c hc
    · subst hc; have := ofNat_toNat (v := u % 10) (by omega); exact ⟨by omega, by omega⟩
theorem dd_ne : ∀ u, Lib.decDigits u ≠ [] := by
  refine dd_ind ?_ ?_
  · intro u h; rw [dd_one h]; simp
  · intro u h ih; rw [dd_step h]; simp
theorem dd_head : ∀ u, 1 ≤ u → (Lib.decDigits u).getD 0 0 ≠ 48 := by
  refine dd_ind ?_ ?_
  · intro u h h1; rw [dd_one h]; intro e
    have e : UInt8.ofNat (48 + u) = 48 := e
    have := congrArg UInt8.toNat e; rw [ofNat_toNat h] at this; simp at this; omega
  · intro u h ih h1; rw [dd_step h]
    have hne := dd_ne (u / 10)
    have := ih (by omega)
    cases hd : Lib.decDigits (u / 10) with
    | nil => exact absurd hd hne
    | cons x xs => rw [hd] at this; simpa using this
theorem getD_mem {s : List UInt8} {j : Nat} (h : j < s.length) : s.getD j 0 ∈ s := by
  rw [List.getD_eq_getElem?_getD, List.getElem?_eq_getElem h]; simp
theorem digP_dd (u : Nat) : digP (Lib.decDigits u) := by
  refine ⟨dd_ne u, ?_, fun j hj => dd_digit u _ (getD_mem hj)⟩
  rintro ⟨h1, h2⟩
  rcases Nat.eq_zero_or_pos u with h | h
  · subst h; rw [dd_one (by omega)] at h2; simp at h2
  · exact dd_head u h h1
theorem isD_all {s : List UInt8} (h : ∀ j, j < s.length → isD (s.getD j 0)) : ∀ c ∈ s, isD c := by
  intro c hc
  obtain ⟨j, hj, rfl⟩ := List.getElem_of_mem hc
  have := h j hj
  rwa [List.getD_eq_getElem?_getD, List.getElem?_eq_getElem hj] at this
theorem dd_nval_aux : ∀ (n : Nat) (s : List UInt8), s.length = n → s ≠ [] → (¬ (s.getD 0 0 = 48 ∧ 1 < s.length)) → (∀ c ∈ s, isD c) → Lib.decDigits (nval s) = s := by
  intro n
  induction n with
  | zero => intro s h h1; exact absurd (List.length_eq_zero_iff.1 h) h1
  | succ n ih =>
    intro s hl hne hz hd
    obtain ⟨t, c, rfl⟩ : ∃ t c, s = t ++ [c] := ⟨s.dropLast, s.getLast hne, (List.dropLast_concat_getLast hne).symm⟩
    have hc : isD c := hd c (by simp)
    have hcc : UInt8.ofNat (48 + (c.toNat - 48)) = c := by
      apply UInt8.toNat_inj.1
      rw [ofNat_toNat (by have := hc.1; have := hc.2; omega)]; have := hc.1; omega
    have hlt : c.toNat - 48 < 10 := by have := hc.2; omega
    rw [nval_snoc]
    cases t with
    | nil => simp only [nval, List.foldl, List.nil_append]; rw [dd_one (by omega)]; simp only [Nat.mul_zero, Nat.zero_add]; rw [hcc]
    | cons x xs =>
      have hx : x ≠ 48 := by intro e; subst e; exact hz ⟨rfl, by simp⟩
      have := ih (x :: xs) (by simpa using hl) (by simp) (by rintro ⟨h, _⟩; exact hx h) (fun c hc => hd c (List.mem_append_left _ hc))
      have hpos : 1 ≤ nval (x :: xs) := by
        rcases Nat.eq_zero_or_pos (nval (x :: xs)) with h | h
        · rw [h, dd_one (by omega)] at this
          have : x = UInt8.ofNat (48 + 0) := by simpa using (List.cons.inj this).1.symm
          exact absurd this hx
        · exact h
      rw [dd_step (by omega), show (10 * nval (x :: xs) + (c.toNat - 48)) / 10 = nval (x :: xs) by omega, this, show (10 * nval (x :: xs) + (c.toNat - 48)) % 10 = c.toNat - 48 by omega, hcc]
theorem dd_nval {s : List UInt8} (h : digP s) : Lib.decDigits (nval s) = s := dd_nval_aux _ s rfl h.1 h.2.1 (isD_all h.2.2)

/-! ### Bounds -/
theorem foldl_lin (s : List UInt8) : ∀ a : Nat, s.foldl (fun a c => 10 * a + (c.toNat - 48)) a = a * 10 ^ s.length + nval s := by
  induction s with
  | nil => intro a; simp [nval]
  | cons c t ih =>
    intro a
    simp only [List.foldl, nval, List.length_cons]
    rw [ih, ih (10 * 0 + (c.toNat - 48))]
    rw [Nat.pow_succ]
    generalize 10 ^ t.length = p
    rw [Nat.add_mul, Nat.mul_zero, Nat.zero_add, Nat.mul_comm 10 a, Nat.mul_assoc, Nat.mul_comm 10 p, Nat.add_assoc]
theorem nval_cons (c : UInt8) (t : List UInt8) : nval (c :: t) = (c.toNat - 48) * 10 ^ t.length + nval t := by
  have := foldl_lin t (10 * 0 + (c.toNat - 48))
  simpa [nval] using this
theorem nval_lt : ∀ (s : List UInt8), (∀ c ∈ s, isD c) → nval s < 10 ^ s.length := by
  intro s
  induction s with
  | nil => intro _; simp [nval]
  | cons c t ih =>
    intro h
    rw [nval_cons, List.length_cons, Nat.pow_succ]
    have h1 := ih (fun c hc => h c (by simp [hc]))
    have h2 : c.toNat - 48 ≤ 9 := by have := (h c (by simp)).2; omega
    have := Nat.mul_le_mul_right (10 ^ t.length) h2
    omega
theorem less_iff : ∀ (a b : List UInt8), a.length = b.length → (∀ c ∈ a, isD c) → (∀ c ∈ b, isD c) → (Op.bytesLess a b = decide (nval a < nval b) ∧ (a = b ↔ nval a = nval b)) := by
  intro a
  induction a with
  | nil =>
    intro b hl _ _
    have : b = [] := by cases b with | nil => rfl | cons => simp at hl
    subst this; simp [Op.bytesLess]
  | cons x s ih =>
    intro b hl ha hb
    cases b with
    | nil => simp at hl
    | cons y t =>
      have hl' : s.length = t.length := by simpa using hl
      obtain ⟨h1, h2⟩ := ih t hl' (fun c hc => ha c (by simp [hc])) (fun c hc => hb c (by simp [hc]))
      have hs := nval_lt s (fun c hc => ha c (by simp [hc]))
      have ht := nval_lt t (fun c hc => hb c (by simp [hc]))
      have hx := ha x (by simp)
      have hy := hb y (by simp)
      rw [nval_cons, nval_cons, ← hl']
      rw [← hl'] at ht
      generalize hp : 10 ^ s.length = p at *
      have hxy : (x < y) ↔ x.toNat < y.toNat := UInt8.lt_iff_toNat_lt
      have hxe : (x = y) ↔ x.toNat = y.toNat := UInt8.toNat_inj.symm
      simp only [Op.bytesLess, h1, List.cons.injEq, h2]
      rcases Nat.lt_trichotomy x.toNat y.toNat with h | h | h
      · have e : x.toNat - 48 + 1 ≤ y.toNat - 48 := by have := hx.1; omega
        have := Nat.mul_le_mul_right p e
        rw [Nat.add_mul] at this
        have hlt : (x.toNat - 48) * p + nval s < (y.toNat - 48) * p + nval t := by omega
        refine ⟨?_, ?_⟩
        · simp [hxy.2 h, hlt]
        · constructor
          · rintro ⟨h3, _⟩; have := hxe.1 h3; omega
          · intro h3; omega
      · have e := hxe.2 h
        subst e
        refine ⟨?_, ?_⟩
        · simp
        · simp
      · have e : y.toNat - 48 + 1 ≤ x.toNat - 48 := by have := hy.1; omega
        have := Nat.mul_le_mul_right p e
        rw [Nat.add_mul] at this
        have hlt : (y.toNat - 48) * p + nval t < (x.toNat - 48) * p + nval s := by omega
        have n1 : ¬ x < y := fun h4 => by have := hxy.1 h4; omega
        have n2 : ¬ x = y := fun h4 => by have := hxe.1 h4; omega
        refine ⟨?_, ?_⟩
        · rw [show (x == y) = false by simpa using n2, decide_eq_false n1, Bool.false_and, Bool.or_false]; exact (decide_eq_false (by omega)).symm
        · constructor
          · rintro ⟨h3, _⟩; exact absurd h3 n2
          · intro h3; omega

/-! ### What is read -/
theorem valW_eq (s : List UInt8) (hd : ∀ c ∈ s, isD c) (hb : nval s ≤ 9223372036854775807) : ∀ k, k ≤ s.length → valW s k = nval (s.take k) := by
  intro k
  induction k with
  | zero => intro _; simp [valW, nval]
  | succ k ih =>
    intro hk
    have hlt : k < s.length := by omega
    have hc := hd (s.getD k 0) (getD_mem hlt)
    have htk : s.take (k + 1) = s.take k ++ [s.getD k 0] := by
      rw [List.take_add_one, List.getD_eq_getElem?_getD, List.getElem?_eq_getElem hlt]; simp
    have hle : nval (s.take (k + 1)) ≤ nval s := by
      have e : nval s = nval (s.take (k + 1) ++ s.drop (k + 1)) := by rw [List.take_append_drop]
      rw [e]
      have := foldl_lin (s.drop (k + 1)) (nval (s.take (k + 1)))
      have e2 : nval (s.take (k + 1) ++ s.drop (k + 1)) = nval (s.take (k + 1)) * 10 ^ (s.drop (k + 1)).length + nval (s.drop (k + 1)) := by
        rw [← this]; unfold nval; exact List.foldl_append
      rw [e2]
      have := Nat.le_mul_of_pos_right (nval (s.take (k + 1))) (Nat.pos_of_ne_zero (show 10 ^ (s.drop (k + 1)).length ≠ 0 from by simp))
      omega
    rw [htk, nval_snoc] at hle
    rw [valW, ih (by omega), htk, nval_snoc]
    have hdg : dg (s.getD k 0) = ((s.getD k 0).toNat - 48 : Nat) := by
      unfold dg
      have := hc.1; have := hc.2
      rw [IntKind.wrap_u8, i64_in (by omega)]; omega
    rw [hdg, i64_in (n := 10 * _) (by omega), i64_in (by omega)]
    omega
theorem len60 : (Lib.decDigits 1152921504606846976).length = 19 := by simp [Lib.decDigits]
theorem itoa60 : Lib.itoa 1152921504606846976 = Lib.decDigits 1152921504606846976 := by unfold Lib.itoa; rw [if_neg (by decide)]; rfl
/-- What a text is read as. -/
theorem parse_law (s : List UInt8) : parseF s =
    if digP (Lib.trimPrefix s [45]) ∧ ¬ (Lib.hasPrefix s [45] = true ∧ Lib.trimPrefix s [45] = [48]) then
      if 1152921504606846976 < nval (Lib.trimPrefix s [45]) then (0, 6) else
      if Lib.hasPrefix s [45] = true then (-(nval (Lib.trimPrefix s [45]) : Int), 0) else ((nval (Lib.trimPrefix s [45]) : Int), 0)
    else (0, 2) := by
  unfold parseF
  rw [itoa60]
  generalize Lib.trimPrefix s [45] = b
  generalize Lib.hasPrefix s [45] = mi
  by_cases hd : digP b
  · rw [if_neg (by simpa using hd)]
    by_cases hm : mi = true ∧ b = [48]
    · rw [if_pos hm, if_neg (fun h => h.2 hm)]
    · rw [if_neg hm, if_pos (show digP b ∧ ¬ (mi = true ∧ b = [48]) from ⟨hd, hm⟩)]
      have hal := isD_all hd.2.2
      have hdd := dd_nval hd
      by_cases h19 : (19 : Int) < (b.length : Int)
      · rw [if_pos h19, if_pos]
        -- a numeral of more than 19 digits
        have h1 : b.getD 0 0 ≠ 48 := fun h => hd.2.1 ⟨h, by omega⟩
        cases hb : b with
        | nil => exact absurd hb hd.1
        | cons x xs =>
          rw [hb] at h1 h19
          have hx := hal x (by rw [hb]; simp)
          have hx1 : x.toNat ≠ 48 := fun h => h1 (UInt8.toNat_inj.1 (by simpa using h))
          rw [nval_cons]
          have h2 : 1 ≤ x.toNat - 48 := by have := hx.1; omega
          have h3 : 10 ^ 19 ≤ 10 ^ xs.length := Nat.pow_le_pow_right (by omega) (by simp at h19; omega)
          have := Nat.mul_le_mul_right (10 ^ xs.length) h2
          omega
      · rw [if_neg h19]
        have hlt := nval_lt b hal
        by_cases he : (b.length : Int) = 19
        · have hl : b.length = (Lib.decDigits 1152921504606846976).length := by rw [len60]; omega
          obtain ⟨l1, l2⟩ := less_iff b _ hl hal (dd_digit _)
          rw [nval_dd] at l1 l2
          have hc : ((!(Op.bytesLess b (Lib.decDigits 1152921504606846976) || b == Lib.decDigits 1152921504606846976)) = true) ↔ 1152921504606846976 < nval b := by
            rw [l1]
            simp [l2]; omega
          by_cases hg : 1152921504606846976 < nval b
          · rw [if_pos ⟨he, hc.2 hg⟩, if_pos hg]
          · rw [if_neg (fun h => hg (hc.1 h.2)), if_neg hg]
            rw [valW_eq b hal (by omega) b.length (Nat.le_refl _), List.take_length, i64_in (by omega)]
            simp
        · rw [if_neg (fun h => he h.1)]
          have h18 : nval b < 10 ^ 18 := Nat.lt_of_lt_of_le hlt (Nat.pow_le_pow_right (by omega) (by omega))
          rw [if_neg (show ¬ 1152921504606846976 < nval b by omega)]
          rw [valW_eq b hal (by omega) b.length (Nat.le_refl _), List.take_length, i64_in (by omega)]
          simp
  · rw [if_pos (by simpa using hd), if_neg (fun h => hd h.1)]
end Go.Proofs.YtfhdmhoeopbhnaaDoor
namespace Go.Proofs.YtfhdmhoeopbhnaaDoor
open Go.Proofs.YtfhdmhoeopbhnaaDoor.Am

theorem parse_rng (s : List UInt8) : -9223372036854775808 ≤ (parseF s).1 ∧ (parseF s).1 ≤ 9223372036854775807 := by
  rw [parse_law]
  split
  · split
    · simp
    · split <;> simp <;> omega
  · simp
theorem prefix_cons (s : List UInt8) (h : Lib.hasPrefix s [45] = true) : s = 45 :: Lib.trimPrefix s [45] := by
  unfold Lib.trimPrefix
  rw [if_pos h]
  unfold Lib.hasPrefix at h
  cases s with
  | nil => simp at h
  | cons c t => simp at h; simp [h]
theorem one_law (s : List UInt8) (hz : (parseF s).2 = 0) : Lib.itoa (parseF s).1 = s := by
  rw [parse_law] at hz ⊢
  by_cases h : digP (Lib.trimPrefix s [45]) ∧ ¬ (Lib.hasPrefix s [45] = true ∧ Lib.trimPrefix s [45] = [48])
  · rw [if_pos h] at hz ⊢
    by_cases hg : 1152921504606846976 < nval (Lib.trimPrefix s [45])
    · rw [if_pos hg] at hz; simp at hz
    · rw [if_neg hg]
      have hd := dd_nval h.1
      by_cases hm : Lib.hasPrefix s [45] = true
      · rw [if_pos hm]
        have hne : nval (Lib.trimPrefix s [45]) ≠ 0 := by
          intro e; rw [e, dd_one (by omega)] at hd; exact h.2 ⟨hm, hd.symm⟩
        show Lib.itoa (-(nval (Lib.trimPrefix s [45]) : Int)) = s
        rw [Lib.itoa_neg _ (by omega), hd]
        exact (prefix_cons s hm).symm
      · rw [if_neg hm]
        show Lib.itoa ((nval (Lib.trimPrefix s [45]) : Int)) = s
        rw [Lib.itoa_nonneg, hd]
        unfold Lib.trimPrefix; rw [if_neg hm]
  · rw [if_neg h] at hz; simp at hz
theorem numOne_c (s : List UInt8) : ACalls Tryd.prog GD 4 [.str s] (.sb true) := numOne_of (fun s _ h => one_law s h) parse_rng s

theorem texts_law (n : Int) : parseF (Lib.itoa n) = if n < -1152921504606846976 ∨ 1152921504606846976 < n then (0, 6) else (n, 0) := by
  rw [parse_law]
  by_cases hn : n < 0
  · have e : Lib.itoa n = 45 :: Lib.decDigits n.natAbs := by unfold Lib.itoa; rw [if_pos hn]
    have hp : Lib.hasPrefix (Lib.itoa n) [45] = true := by rw [e]; simp [Lib.hasPrefix]
    have ht : Lib.trimPrefix (Lib.itoa n) [45] = Lib.decDigits n.natAbs := by unfold Lib.trimPrefix; rw [if_pos hp, e]; rfl
    rw [hp, ht, nval_dd]
    have h48 : ¬ (true = true ∧ Lib.decDigits n.natAbs = [48]) := by
      rintro ⟨_, h⟩
      have := congrArg nval h
      rw [nval_dd] at this
      simp [nval] at this; omega
    rw [if_pos ⟨digP_dd _, h48⟩]
    by_cases hg : n < -1152921504606846976
    · rw [if_pos (by omega), if_pos (.inl hg)]
    · rw [if_neg (by omega), if_pos rfl, if_neg (by omega)]
      congr 1; omega
  · have e : Lib.itoa n = Lib.decDigits n.toNat := by unfold Lib.itoa; rw [if_neg hn]
    have hp : Lib.hasPrefix (Lib.itoa n) [45] = false := by
      rw [e]
      have h1 := dd_digit n.toNat
      cases hd : Lib.decDigits n.toNat with
      | nil => exact absurd hd (dd_ne _)
      | cons c t =>
        rw [hd] at h1
        have := (h1 c (by simp)).1
        have hc : c ≠ 45 := by intro h; subst h; simp at this
        simp [Lib.hasPrefix, List.isPrefixOf]; exact fun h => hc h.symm
    have ht : Lib.trimPrefix (Lib.itoa n) [45] = Lib.decDigits n.toNat := by unfold Lib.trimPrefix; rw [hp, e]; rfl
    rw [hp, ht, nval_dd]
    rw [if_pos ⟨digP_dd _, fun h => by simp at h⟩]
    by_cases hg : 1152921504606846976 < n
    · rw [if_pos (by omega), if_pos (.inr hg)]
    · rw [if_neg (by omega), if_neg (by simp), if_neg (by omega)]
      congr 1; omega

set_option maxRecDepth 100000 in
theorem numTexts_c (n : Int) (h0 : -9223372036854775808 ≤ n) (h1 : n ≤ 9223372036854775807) : ACalls Tryd.prog GD 3 [.int .i64 n] (.sb true) := by
  have hlen := itoa_len n h0 h1
  have law := texts_law n
  have l1 : 1 ≤ (Lib.itoa n).length := by
    unfold Lib.itoa; split
    · simp
    · have := dd_ne n.toNat; exact List.length_pos_iff.2 this
  have wl : IntKind.i64.wrap (((Lib.itoa n).length : Int) - 1) = ((Lib.itoa n).length : Int) - 1 := i64_in (by omega)
  refine ACalls.of_WA ttok Tryd.func3 rfl rfl _ rfl ?_
  conv => whnf
  repeat' (first | refine WA_seq ?_ | (refine WA_region ttok ?_; conv => whnf) | (refine WA_cond ?_; conv => whnf) | refine WA_block ?_ | (refine WA_skip ?_; conv => whnf) | (refine WA_exit ?_; conv => whnf) | (refine WA_ret ?_; conv => whnf) | (refine And.intro (fun _ => ?_) (fun _ => ?_) <;> conv => whnf) | (refine Exists.intro _ (And.intro (text_c n h0 h1) ?_); conv => whnf) | (refine Exists.intro _ (And.intro (refText_c n h0 h1) ?_); conv => whnf) | (refine Exists.intro _ (And.intro (parse_c _ (Nat.le_trans hlen (by decide))) ?_); conv => whnf) | (refine Exists.intro _ (And.intro (digitsN_c n h0 h1) ?_); conv => whnf) | (refine Exists.intro _ (And.intro (awake_c) ?_); conv => whnf) | (refine And.intro ?_ ?_; focus (first | omega | (simp at *; omega)); conv => whnf))
  all_goals clear h0 h1 hlen l1
  all_goals (try (exfalso; simp at *; done))
  all_goals (by_cases hr : n < -1152921504606846976 ∨ 1152921504606846976 < n)
  all_goals (first | rw [if_pos hr] at law | rw [if_neg hr] at law)
  all_goals simp_all
  all_goals try omega
end Go.Proofs.YtfhdmhoeopbhnaaDoor
namespace Go.Proofs.YtfhdmhoeopbhnaaDoor
open Go.ChangeShapes Go.WideShapes Go.ChangeAt Go.RowKit
open Go.ChangeMaps (open_string)
open Go.Proofs.YtfhdmhoeopbhnaaDoor.Am

theorem Tryd.own : ownKnob Tryd.prog.godebug = none := by kernel_rfl
theorem Tryd.laidOut : laidOutB Tryd.prog = true := by kernel_rfl
def laid3 : List (String × DataW Unit) := [("math/bits.deBruijn32tab", Rows.laid_math_bits_deBruijn32tab), ("math/bits.deBruijn64tab", Rows.laid_math_bits_deBruijn64tab), ("internal/strconv.uint64pow10", Rows.laid_internal_strconv_uint64pow10)]
theorem door_met (os : Os) (args : Array Value) : laidMetH Tryd.prog laid3 ((World.doorLaid Tryd.prog 4000 os).forCall (fun _ _ => 0) ⟨#[], args, []⟩).memory :=
  laidMetH_of_parts3 (fuel := 8) (laidMet_of_run' 8 (by kernel_rfl) (by kernel_rfl)) (by kernel_rfl) (by kernel_rfl)
theorem gPow : Tryd.prog.globalNamed "internal/strconv.uint64pow10" = some 0 := by kernel_rfl
theorem tPow : (Tryd.prog.globals[0]?).map (·.type) = some 86 := by kernel_rfl
theorem of_laid {W : World} (h : laidMetH Tryd.prog laid3 W) : GD.G W := by
  rw [MakeChecks.laidMetH_plain _ _ _ (by kernel_rfl)] at h
  obtain ⟨ps, ⟨g0, t0, cs0, f0, p0, q0, hg0, ht0, hv0, hd0, ⟨g1, t1, cs1, f1, p1, q1, hg1, ht1, hv1, hd1, ⟨g2, t2, cs2, f2, p2, q2, hg2, ht2, hv2, hd2, _, _⟩, _⟩, _⟩, _, _⟩ := h
  obtain rfl := Option.some.inj (gPow.symm.trans hg2)
  obtain rfl := Option.some.inj (tPow.symm.trans ht2)
  have hd : DataW.trod _ Tryd.prog W _ _ _ f2 86 cs2.toList = some (Lib.tabData .u64 Lib.pow10Tab, p2) := hd2
  have := Lib.cells_of_tab Tryd.underlying86 Tryd.underlying75 (by kernel_rfl) (by kernel_rfl) hd
  show Lib.TabIs _ _ _ _ _
  unfold Lib.TabIs
  rw [hv2, ← this]

end Go.Proofs.YtfhdmhoeopbhnaaDoor
