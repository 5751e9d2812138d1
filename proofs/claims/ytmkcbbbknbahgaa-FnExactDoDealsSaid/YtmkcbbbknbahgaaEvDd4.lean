/- Part 4 of the proof: the evaluator and the contracts of functions. -/
import Derived.Below
import Derived.KernelRfl
import Derived.Laws.AppendOwn
import Derived.Laws.BytesArg
import Derived.Laws.BytesString
import Derived.Laws.CopyRow
import Derived.Laws.Entries
import Derived.Laws.IdiomCopy
import Derived.Laws.MakeOwn
import Derived.Laws.OwnMore
import Derived.Orders
import Derived.Test.YtmkcbbbknbahgaaProg
import Derived.Test.YtmkcbbbknbahgaaEvDd3
set_option linter.unusedVariables false
set_option linter.unusedSimpArgs false
/- The types of the program, as a table. -/
set_option maxRecDepth 20000
namespace Go.Ev
open Go Go.Proofs
def tabL : List (Nat × TI) := [(1, ⟨false, 1, 0, [], [.nilFunc], 8, 0, false, none⟩),
  (2, ⟨false, 1, 0, [], [(.int .i64 0)], 8, 0, false, some .i64⟩),
  (3, ⟨false, 1, 0, [], [(.int .i64 0)], 8, 0, false, some .i64⟩),
  (4, ⟨false, 1, 0, [], [(.bool false)], 1, 1, false, none⟩),
  (5, ⟨false, 1, 0, [], [(.int .u8 0)], 1, 0, false, some .u8⟩),
  (6, ⟨false, 1, 0, [], [(.int .u8 0)], 1, 0, false, some .u8⟩),
  (7, ⟨true, 4, 0, [(0, 1, false), (1, 1, false), (2, 1, false), (3, 1, false)], [(.int .i64 0), (.int .i64 0), (.bool false), (.int .u8 0)], 24, 0, false, none⟩),
  (8, ⟨true, 4, 0, [(0, 1, false), (1, 1, false), (2, 1, false), (3, 1, false)], [(.int .i64 0), (.int .i64 0), (.bool false), (.int .u8 0)], 24, 0, false, none⟩),
  (9, ⟨false, 1, 0, [], [(.string .empty)], 16, 2, false, none⟩),
  (10, ⟨false, 1, 0, [], [(.string .empty)], 16, 2, false, none⟩),
  (11, ⟨false, 1, 0, [], [(.string .empty)], 16, 2, false, none⟩),
  (12, ⟨false, 1, 0, [], [(.int .u64 0)], 8, 0, false, some .u64⟩),
  (13, ⟨true, 2, 0, [(0, 1, false), (1, 1, false)], [(.string .empty), (.int .u64 0)], 24, 0, false, none⟩),
  (14, ⟨true, 2, 0, [(0, 1, false), (1, 1, false)], [(.string .empty), (.int .u64 0)], 24, 0, false, none⟩),
  (15, ⟨false, 1, 0, [], [(.pointer none)], 8, 0, false, none⟩),
  (16, ⟨false, 1, 0, [], [(.pointer none)], 8, 0, false, none⟩),
  (17, ⟨false, 1, 0, [], [(.pointer none)], 8, 0, false, none⟩),
  (18, ⟨true, 1, 0, [(0, 1, false)], [(.pointer none)], 8, 0, false, none⟩),
  (19, ⟨true, 1, 0, [(0, 1, false)], [(.pointer none)], 8, 0, false, none⟩),
  (21, ⟨false, 1, 0, [], [(.int .i32 0)], 4, 0, false, some .i32⟩),
  (22, ⟨false, 1, 29, [], [(.slice none 0 0)], 24, 0, true, none⟩),
  (23, ⟨true, 1, 0, [(0, 1, false)], [(.slice none 0 0)], 24, 0, true, none⟩),
  (24, ⟨true, 1, 0, [(0, 1, false)], [(.slice none 0 0)], 24, 0, true, none⟩),
  (25, ⟨true, 4, 0, [(0, 1, false), (1, 1, false), (2, 1, false), (3, 1, false)], [(.int .i64 0), (.int .i64 0), (.int .i64 0), (.int .i64 0)], 32, 0, false, none⟩),
  (26, ⟨true, 4, 0, [(0, 1, false), (1, 1, false), (2, 1, false), (3, 1, false)], [(.int .i64 0), (.int .i64 0), (.int .i64 0), (.int .i64 0)], 32, 0, false, none⟩),
  (27, ⟨true, 7, 0, [(0, 1, true), (1, 4, true), (5, 1, false), (6, 1, false)], [(.slice none 0 0), (.int .i64 0), (.int .i64 0), (.int .i64 0), (.int .i64 0), (.int .i64 0), (.int .i64 0)], 72, 0, true, none⟩),
  (28, ⟨true, 7, 0, [(0, 1, true), (1, 4, true), (5, 1, false), (6, 1, false)], [(.slice none 0 0), (.int .i64 0), (.int .i64 0), (.int .i64 0), (.int .i64 0), (.int .i64 0), (.int .i64 0)], 72, 0, true, none⟩),
  (29, ⟨false, 1, 5, [], [(.slice none 0 0)], 24, 0, true, none⟩),
  (30, ⟨false, 1, 0, [], [.nilFunc], 8, 0, false, none⟩),
  (31, ⟨true, 1, 0, [(0, 1, false)], [(.slice none 0 0)], 24, 0, true, none⟩),
  (32, ⟨true, 4, 0, [(0, 1, false), (1, 1, false), (2, 1, false), (3, 1, false)], [(.int .i64 0), (.int .i64 0), (.int .i64 0), (.int .i64 0)], 32, 0, false, none⟩),
  (33, ⟨true, 7, 0, [(0, 1, true), (1, 4, true), (5, 1, false), (6, 1, false)], [(.slice none 0 0), (.int .i64 0), (.int .i64 0), (.int .i64 0), (.int .i64 0), (.int .i64 0), (.int .i64 0)], 72, 0, true, none⟩),
  (34, ⟨true, 7, 0, [(0, 1, true), (1, 4, true), (5, 1, false), (6, 1, false)], [(.slice none 0 0), (.int .i64 0), (.int .i64 0), (.int .i64 0), (.int .i64 0), (.int .i64 0), (.int .i64 0)], 72, 0, true, none⟩),
  (36, ⟨false, 1, 0, [], [.nilFunc], 8, 0, false, none⟩),
  (37, ⟨false, 1, 0, [], [.nilFunc], 8, 0, false, none⟩),
  (38, ⟨false, 1, 0, [], [.nilFunc], 8, 0, false, none⟩),
  (39, ⟨false, 1, 0, [], [.nilFunc], 8, 0, false, none⟩),
  (40, ⟨false, 1, 0, [], [.nilFunc], 8, 0, false, none⟩),
  (41, ⟨false, 1, 0, [], [.nilFunc], 8, 0, false, none⟩),
  (42, ⟨false, 1, 0, [], [.nilFunc], 8, 0, false, none⟩),
  (43, ⟨false, 1, 0, [], [.nilFunc], 8, 0, false, none⟩),
  (44, ⟨true, 3, 0, [(0, 1, false), (1, 1, false), (2, 1, false)], [(.int .i64 0), (.int .i64 0), (.slice none 0 0)], 40, 0, true, none⟩),
  (45, ⟨true, 3, 0, [(0, 1, false), (1, 1, false), (2, 1, false)], [(.int .i64 0), (.int .i64 0), (.slice none 0 0)], 40, 0, true, none⟩),
  (46, ⟨false, 1, 0, [], [.nilFunc], 8, 0, false, none⟩),
  (48, ⟨false, 1, 0, [], [.nilFunc], 8, 0, false, none⟩),
  (49, ⟨true, 3, 0, [(0, 1, false), (1, 1, false), (2, 1, false)], [(.int .i64 0), (.int .i64 0), (.slice none 0 0)], 40, 0, true, none⟩),
  (50, ⟨false, 1, 0, [], [.nilFunc], 8, 0, false, none⟩),
  (51, ⟨false, 1, 0, [], [.nilFunc], 8, 0, false, none⟩),
  (52, ⟨false, 1, 0, [], [.nilFunc], 8, 0, false, none⟩),
  (53, ⟨false, 1, 0, [], [.nilFunc], 8, 0, false, none⟩),
  (54, ⟨false, 1, 45, [], [(.slice none 0 0)], 24, 0, true, none⟩),
  (55, ⟨false, 1, 0, [], [.nilFunc], 8, 0, false, none⟩),
  (57, ⟨false, 1, 0, [], [.nilFunc], 8, 0, false, none⟩),
  (58, ⟨false, 1, 49, [], [(.slice none 0 0)], 24, 0, true, none⟩),
  (59, ⟨false, 1, 0, [], [.nilFunc], 8, 0, false, none⟩),
  (60, ⟨false, 1, 0, [], [.nilFunc], 8, 0, false, none⟩),
  (61, ⟨false, 1, 0, [], [.nilFunc], 8, 0, false, none⟩),
  (62, ⟨false, 1, 0, [], [.nilFunc], 8, 0, false, none⟩),
  (63, ⟨false, 1, 3, [], [(.slice none 0 0)], 24, 0, true, none⟩),
  (64, ⟨true, 7, 0, [(0, 1, true), (1, 4, true), (5, 1, false), (6, 1, false)], [(.slice none 0 0), (.int .i64 0), (.int .i64 0), (.int .i64 0), (.int .i64 0), (.int .i64 0), (.slice none 0 0)], 88, 0, true, none⟩),
  (65, ⟨true, 7, 0, [(0, 1, true), (1, 4, true), (5, 1, false), (6, 1, false)], [(.slice none 0 0), (.int .i64 0), (.int .i64 0), (.int .i64 0), (.int .i64 0), (.int .i64 0), (.slice none 0 0)], 88, 0, true, none⟩),
  (66, ⟨true, 2, 0, [(0, 1, false), (1, 1, false)], [(.int .i64 0), (.int .i64 0)], 16, 0, false, none⟩),
  (67, ⟨true, 2, 0, [(0, 1, false), (1, 1, false)], [(.int .i64 0), (.int .i64 0)], 16, 0, false, none⟩),
  (68, ⟨false, 1, 0, [], [.nilFunc], 8, 0, false, none⟩),
  (69, ⟨true, 7, 0, [(0, 1, true), (1, 4, true), (5, 1, false), (6, 1, false)], [(.slice none 0 0), (.int .i64 0), (.int .i64 0), (.int .i64 0), (.int .i64 0), (.int .i64 0), (.slice none 0 0)], 88, 0, true, none⟩),
  (70, ⟨true, 7, 0, [(0, 1, true), (1, 4, true), (5, 1, false), (6, 1, false)], [(.slice none 0 0), (.int .i64 0), (.int .i64 0), (.int .i64 0), (.int .i64 0), (.int .i64 0), (.slice none 0 0)], 88, 0, true, none⟩),
  (72, ⟨false, 1, 0, [], [.nilFunc], 8, 0, false, none⟩),
  (73, ⟨false, 1, 0, [], [.nilFunc], 8, 0, false, none⟩),
  (74, ⟨true, 2, 0, [(0, 1, false), (1, 1, false)], [(.int .i64 0), (.int .i64 0)], 16, 0, false, none⟩),
  (75, ⟨false, 1, 0, [], [.nilFunc], 8, 0, false, none⟩),
  (76, ⟨false, 1, 0, [], [.nilFunc], 8, 0, false, none⟩),
  (77, ⟨false, 1, 0, [], [.nilFunc], 8, 0, false, none⟩),
  (78, ⟨false, 1, 0, [], [.nilFunc], 8, 0, false, none⟩),
  (79, ⟨false, 1, 0, [], [.nilFunc], 8, 0, false, none⟩),
  (80, ⟨false, 1, 67, [], [(.slice none 0 0)], 24, 0, true, none⟩),
  (81, ⟨false, 1, 0, [], [.nilFunc], 8, 0, false, none⟩),
  (82, ⟨false, 1, 32, [], [(.slice none 0 0)], 24, 0, true, none⟩),
  (84, ⟨false, 1, 0, [], [.nilFunc], 8, 0, false, none⟩),
  (85, ⟨false, 1, 74, [], [(.slice none 0 0)], 24, 0, true, none⟩),
  (86, ⟨false, 1, 0, [], [.nilFunc], 8, 0, false, none⟩),
  (87, ⟨false, 1, 0, [], [.nilFunc], 8, 0, false, none⟩),
  (88, ⟨false, 1, 0, [], [.nilFunc], 8, 0, false, none⟩),
  (89, ⟨false, 1, 0, [], [.nilFunc], 8, 0, false, none⟩),
  (90, ⟨false, 1, 0, [], [.nilFunc], 8, 0, false, none⟩),
  (91, ⟨false, 1, 0, [], [.nilFunc], 8, 0, false, none⟩),
  (92, ⟨false, 1, 26, [], [(.slice none 0 0)], 24, 0, true, none⟩),
  (93, ⟨true, 1, 0, [(0, 1, false)], [(.slice none 0 0)], 24, 0, true, none⟩),
  (94, ⟨true, 1, 0, [(0, 1, false)], [(.slice none 0 0)], 24, 0, true, none⟩),
  (95, ⟨false, 1, 0, [], [.nilFunc], 8, 0, false, none⟩),
  (96, ⟨false, 1, 0, [], [.nilFunc], 8, 0, false, none⟩),
  (97, ⟨true, 1, 0, [(0, 1, false)], [(.slice none 0 0)], 24, 0, true, none⟩),
  (98, ⟨true, 1, 0, [(0, 1, false)], [(.slice none 0 0)], 24, 0, true, none⟩),
  (100, ⟨false, 1, 0, [], [.nilFunc], 8, 0, false, none⟩),
  (101, ⟨false, 1, 0, [], [.nilFunc], 8, 0, false, none⟩),
  (102, ⟨false, 1, 0, [], [.nilFunc], 8, 0, false, none⟩),
  (103, ⟨false, 1, 0, [], [.nilFunc], 8, 0, false, none⟩),
  (104, ⟨false, 1, 0, [], [.nilFunc], 8, 0, false, none⟩),
  (105, ⟨false, 1, 0, [], [.nilFunc], 8, 0, false, none⟩),
  (106, ⟨false, 1, 0, [], [.nilFunc], 8, 0, false, none⟩),
  (107, ⟨false, 1, 0, [], [.nilFunc], 8, 0, false, none⟩),
  (108, ⟨false, 1, 0, [], [.nilFunc], 8, 0, false, none⟩),
  (109, ⟨false, 1, 0, [], [.nilFunc], 8, 0, false, none⟩),
  (110, ⟨true, 3, 0, [(0, 1, true), (1, 1, false), (2, 1, false)], [(.slice none 0 0), (.slice none 0 0), (.int .i64 0)], 56, 0, true, none⟩),
  (111, ⟨true, 3, 0, [(0, 1, true), (1, 1, false), (2, 1, false)], [(.slice none 0 0), (.slice none 0 0), (.int .i64 0)], 56, 0, true, none⟩),
  (112, ⟨true, 4, 0, [(0, 1, false), (1, 1, false), (2, 1, false), (3, 1, false)], [(.int .i64 0), (.int .i64 0), (.int .i64 0), (.int .i64 0)], 32, 0, false, none⟩),
  (113, ⟨true, 4, 0, [(0, 1, false), (1, 1, false), (2, 1, false), (3, 1, false)], [(.int .i64 0), (.int .i64 0), (.int .i64 0), (.int .i64 0)], 32, 0, false, none⟩),
  (114, ⟨false, 1, 0, [], [.nilFunc], 8, 0, false, none⟩),
  (115, ⟨true, 3, 0, [(0, 1, true), (1, 1, false), (2, 1, false)], [(.slice none 0 0), (.slice none 0 0), (.int .i64 0)], 56, 0, true, none⟩),
  (116, ⟨true, 3, 0, [(0, 1, true), (1, 1, false), (2, 1, false)], [(.slice none 0 0), (.slice none 0 0), (.int .i64 0)], 56, 0, true, none⟩),
  (118, ⟨false, 1, 0, [], [.nilFunc], 8, 0, false, none⟩),
  (119, ⟨false, 1, 0, [], [.nilFunc], 8, 0, false, none⟩),
  (120, ⟨true, 4, 0, [(0, 1, false), (1, 1, false), (2, 1, false), (3, 1, false)], [(.int .i64 0), (.int .i64 0), (.int .i64 0), (.int .i64 0)], 32, 0, false, none⟩),
  (121, ⟨false, 1, 0, [], [.nilFunc], 8, 0, false, none⟩),
  (122, ⟨false, 1, 0, [], [.nilFunc], 8, 0, false, none⟩),
  (123, ⟨false, 1, 0, [], [.nilFunc], 8, 0, false, none⟩),
  (124, ⟨false, 1, 0, [], [.nilFunc], 8, 0, false, none⟩),
  (125, ⟨false, 1, 113, [], [(.slice none 0 0)], 24, 0, true, none⟩),
  (126, ⟨false, 1, 0, [], [.nilFunc], 8, 0, false, none⟩),
  (128, ⟨false, 1, 0, [], [.nilFunc], 8, 0, false, none⟩),
  (129, ⟨false, 1, 120, [], [(.slice none 0 0)], 24, 0, true, none⟩),
  (130, ⟨false, 1, 0, [], [.nilFunc], 8, 0, false, none⟩),
  (131, ⟨false, 1, 0, [], [.nilFunc], 8, 0, false, none⟩),
  (132, ⟨false, 1, 0, [], [.nilFunc], 8, 0, false, none⟩),
  (133, ⟨false, 1, 0, [], [.nilFunc], 8, 0, false, none⟩),
  (134, ⟨false, 1, 0, [], [.nilFunc], 8, 0, false, none⟩),
  (135, ⟨false, 1, 0, [], [.nilFunc], 8, 0, false, none⟩),
  (136, ⟨false, 1, 0, [], [.nilFunc], 8, 0, false, none⟩),
  (137, ⟨false, 1, 0, [], [.nilFunc], 8, 0, false, none⟩),
  (138, ⟨false, 1, 0, [], [.nilFunc], 8, 0, false, none⟩),
  (139, ⟨false, 1, 0, [], [.nilFunc], 8, 0, false, none⟩),
  (140, ⟨false, 1, 0, [], [.nilFunc], 8, 0, false, none⟩),
  (141, ⟨false, 1, 0, [], [.nilFunc], 8, 0, false, none⟩),
  (142, ⟨false, 1, 0, [], [.nilFunc], 8, 0, false, none⟩),
  (143, ⟨false, 1, 0, [], [.nilFunc], 8, 0, false, none⟩),
  (144, ⟨false, 1, 0, [], [.nilFunc], 8, 0, false, none⟩),
  (145, ⟨false, 1, 0, [], [.nilFunc], 8, 0, false, none⟩),
  (146, ⟨false, 1, 0, [], [.nilFunc], 8, 0, false, none⟩),
  (147, ⟨false, 1, 0, [], [.nilFunc], 8, 0, false, none⟩),
  (148, ⟨false, 1, 0, [], [.nilFunc], 8, 0, false, none⟩),
  (149, ⟨false, 1, 0, [], [.nilFunc], 8, 0, false, none⟩),
  (150, ⟨false, 1, 0, [], [.nilFunc], 8, 0, false, none⟩),
  (151, ⟨false, 1, 0, [], [.nilFunc], 8, 0, false, none⟩),
  (152, ⟨false, 1, 0, [], [.nilFunc], 8, 0, false, none⟩),
  (153, ⟨false, 1, 0, [], [.nilFunc], 8, 0, false, none⟩),
  (154, ⟨false, 1, 0, [], [.nilFunc], 8, 0, false, none⟩),
  (156, ⟨false, 1, 0, [], [.nilFunc], 8, 0, false, none⟩),
  (157, ⟨false, 1, 0, [], [.nilFunc], 8, 0, false, none⟩),
  (158, ⟨false, 1, 0, [], [.nilFunc], 8, 0, false, none⟩),
  (159, ⟨false, 1, 0, [], [.nilFunc], 8, 0, false, none⟩),
  (160, ⟨false, 1, 0, [], [.nilFunc], 8, 0, false, none⟩),
  (161, ⟨false, 1, 0, [], [.nilFunc], 8, 0, false, none⟩),
  (163, ⟨false, 1, 0, [], [.nilFunc], 8, 0, false, none⟩),
  (165, ⟨false, 1, 0, [], [.nilFunc], 8, 0, false, none⟩),
  (166, ⟨false, 1, 0, [], [.nilFunc], 8, 0, false, none⟩),
  (167, ⟨false, 1, 0, [], [.nilFunc], 8, 0, false, none⟩),
  (168, ⟨false, 1, 0, [], [.nilFunc], 8, 0, false, none⟩),
  (169, ⟨false, 1, 0, [], [.nilFunc], 8, 0, false, none⟩),
  (170, ⟨false, 1, 0, [], [.nilFunc], 8, 0, false, none⟩),
  (172, ⟨false, 1, 0, [], [.nilFunc], 8, 0, false, none⟩),
  (173, ⟨false, 1, 0, [], [.nilFunc], 8, 0, false, none⟩),
  (174, ⟨false, 1, 0, [], [.nilFunc], 8, 0, false, none⟩),
  (176, ⟨false, 1, 0, [], [.nilFunc], 8, 0, false, none⟩),
  (177, ⟨false, 1, 0, [], [.nilFunc], 8, 0, false, none⟩),
  (178, ⟨false, 1, 0, [], [.nilFunc], 8, 0, false, none⟩),
  (179, ⟨false, 1, 0, [], [.nilFunc], 8, 0, false, none⟩),
  (180, ⟨false, 1, 0, [], [.nilFunc], 8, 0, false, none⟩),
  (181, ⟨false, 1, 0, [], [.nilFunc], 8, 0, false, none⟩),
  (182, ⟨false, 1, 0, [], [.nilFunc], 8, 0, false, none⟩),
  (183, ⟨false, 1, 0, [], [.nilFunc], 8, 0, false, none⟩),
  (184, ⟨false, 1, 0, [], [.nilFunc], 8, 0, false, none⟩),
  (185, ⟨false, 1, 0, [], [.nilFunc], 8, 0, false, none⟩),
  (186, ⟨false, 1, 0, [], [.nilFunc], 8, 0, false, none⟩),
  (187, ⟨false, 1, 0, [], [.nilFunc], 8, 0, false, none⟩),
  (188, ⟨false, 1, 0, [], [(.pointer none)], 8, 0, false, none⟩),
  (189, ⟨false, 1, 0, [], [.nilFunc], 8, 0, false, none⟩),
  (191, ⟨false, 1, 0, [], [.nilFunc], 8, 0, false, none⟩),
  (192, ⟨false, 1, 0, [], [.nilFunc], 8, 0, false, none⟩),
  (193, ⟨false, 1, 0, [], [.nilFunc], 8, 0, false, none⟩),
  (194, ⟨false, 1, 0, [], [(.pointer none)], 8, 0, false, none⟩),
  (196, ⟨false, 1, 0, [], [.nilFunc], 8, 0, false, none⟩),
  (198, ⟨false, 1, 0, [], [.nilFunc], 8, 0, false, none⟩),
  (199, ⟨false, 1, 0, [], [.nilFunc], 8, 0, false, none⟩),
  (200, ⟨false, 1, 82, [], [(.slice none 0 0)], 24, 0, true, none⟩),
  (201, ⟨false, 1, 0, [], [.nilFunc], 8, 0, false, none⟩),
  (202, ⟨false, 1, 0, [], [.nilFunc], 8, 0, false, none⟩),
  (203, ⟨false, 1, 0, [], [.nilFunc], 8, 0, false, none⟩),
  (204, ⟨false, 1, 0, [], [.nilFunc], 8, 0, false, none⟩),
  (205, ⟨false, 1, 0, [], [.nilFunc], 8, 0, false, none⟩),
  (206, ⟨false, 1, 0, [], [.nilFunc], 8, 0, false, none⟩),
  (207, ⟨false, 1, 0, [], [.nilFunc], 8, 0, false, none⟩),
  (208, ⟨false, 1, 0, [], [.nilFunc], 8, 0, false, none⟩),
  (209, ⟨false, 1, 0, [], [(.pointer none)], 8, 0, false, none⟩),
  (210, ⟨false, 1, 0, [], [.nilFunc], 8, 0, false, none⟩),
  (211, ⟨false, 1, 0, [], [.nilFunc], 8, 0, false, none⟩),
  (212, ⟨false, 1, 0, [], [.nilFunc], 8, 0, false, none⟩),
  (213, ⟨false, 1, 0, [], [.nilFunc], 8, 0, false, none⟩),
  (215, ⟨false, 1, 0, [], [.nilFunc], 8, 0, false, none⟩),
  (216, ⟨false, 1, 0, [], [.nilFunc], 8, 0, false, none⟩),
  (218, ⟨false, 1, 0, [], [.nilFunc], 8, 0, false, none⟩),
  (219, ⟨false, 1, 0, [], [.nilFunc], 8, 0, false, none⟩),
  (220, ⟨false, 1, 0, [], [.nilFunc], 8, 0, false, none⟩),
  (221, ⟨false, 1, 0, [], [.nilFunc], 8, 0, false, none⟩),
  (222, ⟨false, 1, 0, [], [.nilFunc], 8, 0, false, none⟩),
  (223, ⟨false, 1, 0, [], [.nilFunc], 8, 0, false, none⟩),
  (224, ⟨false, 1, 0, [], [.nilFunc], 8, 0, false, none⟩),
  (225, ⟨false, 1, 0, [], [.nilFunc], 8, 0, false, none⟩),
  (226, ⟨false, 1, 0, [], [.nilFunc], 8, 0, false, none⟩),
  (227, ⟨false, 1, 0, [], [.nilFunc], 8, 0, false, none⟩),
  (228, ⟨false, 1, 0, [], [.nilFunc], 8, 0, false, none⟩),
  (229, ⟨false, 1, 0, [], [.nilFunc], 8, 0, false, none⟩),
  (230, ⟨false, 1, 0, [], [.nilFunc], 8, 0, false, none⟩),
  (231, ⟨false, 1, 0, [], [.nilFunc], 8, 0, false, none⟩),
  (232, ⟨false, 1, 0, [], [.nilFunc], 8, 0, false, none⟩),
  (233, ⟨false, 1, 0, [], [.nilFunc], 8, 0, false, none⟩),
  (234, ⟨false, 1, 0, [], [.nilFunc], 8, 0, false, none⟩),
  (235, ⟨false, 1, 0, [], [(.pointer none)], 8, 0, false, none⟩),
  (236, ⟨false, 1, 0, [], [.nilFunc], 8, 0, false, none⟩),
  (237, ⟨false, 1, 0, [], [.nilFunc], 8, 0, false, none⟩),
  (238, ⟨false, 1, 0, [], [.nilFunc], 8, 0, false, none⟩),
  (240, ⟨false, 1, 0, [], [.nilFunc], 8, 0, false, none⟩),
  (241, ⟨false, 1, 0, [], [.nilFunc], 8, 0, false, none⟩),
  (242, ⟨false, 1, 0, [], [.nilFunc], 8, 0, false, none⟩),
  (243, ⟨true, 4, 0, [(0, 1, false), (1, 1, false), (2, 1, false), (3, 1, false)], [(.pointer none), (.pointer none), (.pointer none), (.string .empty)], 40, 0, false, none⟩),
  (244, ⟨true, 4, 0, [(0, 1, false), (1, 1, false), (2, 1, false), (3, 1, false)], [(.pointer none), (.pointer none), (.pointer none), (.string .empty)], 40, 0, false, none⟩),
  (248, ⟨false, 1, 0, [], [(.int .u32 0)], 4, 0, false, some .u32⟩),
  (249, ⟨false, 1, 0, [], [(.int .u8 0)], 1, 0, false, some .u8⟩),
  (250, ⟨false, 1, 0, [], [(.int .u8 0)], 1, 0, false, some .u8⟩),
  (251, ⟨false, 1, 0, [], [.nilFunc], 8, 0, false, none⟩),
  (252, ⟨false, 1, 0, [], [(.pointer none)], 8, 0, false, none⟩),
  (253, ⟨false, 1, 0, [], [(.int .i32 0)], 4, 0, false, some .i32⟩),
  (254, ⟨false, 1, 0, [], [(.int .i32 0)], 4, 0, false, some .i32⟩),
  (255, ⟨true, 11, 0, [(0, 1, false), (1, 1, false), (2, 1, false), (3, 1, false), (4, 1, false), (5, 1, false), (6, 1, false), (7, 1, false), (8, 1, false), (9, 1, false), (10, 1, false)], [(.int .u64 0), (.int .u64 0), (.int .u32 0), (.int .u8 0), (.int .u8 0), (.int .u8 0), (.int .u8 0), .nilFunc, (.pointer none), (.int .i32 0), (.int .i32 0)], 48, 0, false, none⟩),
  (256, ⟨true, 11, 0, [(0, 1, false), (1, 1, false), (2, 1, false), (3, 1, false), (4, 1, false), (5, 1, false), (6, 1, false), (7, 1, false), (8, 1, false), (9, 1, false), (10, 1, false)], [(.int .u64 0), (.int .u64 0), (.int .u32 0), (.int .u8 0), (.int .u8 0), (.int .u8 0), (.int .u8 0), .nilFunc, (.pointer none), (.int .i32 0), (.int .i32 0)], 48, 0, false, none⟩)]
def tab (t : Nat) : TI := tabOf tabL t
theorem tabs : tab 1 = ⟨false, 1, 0, [], [.nilFunc], 8, 0, false, none⟩ ∧
  tab 2 = ⟨false, 1, 0, [], [(.int .i64 0)], 8, 0, false, some .i64⟩ ∧
  tab 3 = ⟨false, 1, 0, [], [(.int .i64 0)], 8, 0, false, some .i64⟩ ∧
  tab 4 = ⟨false, 1, 0, [], [(.bool false)], 1, 1, false, none⟩ ∧
  tab 5 = ⟨false, 1, 0, [], [(.int .u8 0)], 1, 0, false, some .u8⟩ ∧
  tab 6 = ⟨false, 1, 0, [], [(.int .u8 0)], 1, 0, false, some .u8⟩ ∧
  tab 7 = ⟨true, 4, 0, [(0, 1, false), (1, 1, false), (2, 1, false), (3, 1, false)], [(.int .i64 0), (.int .i64 0), (.bool false), (.int .u8 0)], 24, 0, false, none⟩ ∧
  tab 8 = ⟨true, 4, 0, [(0, 1, false), (1, 1, false), (2, 1, false), (3, 1, false)], [(.int .i64 0), (.int .i64 0), (.bool false), (.int .u8 0)], 24, 0, false, none⟩ ∧
  tab 9 = ⟨false, 1, 0, [], [(.string .empty)], 16, 2, false, none⟩ ∧
  tab 10 = ⟨false, 1, 0, [], [(.string .empty)], 16, 2, false, none⟩ ∧
  tab 11 = ⟨false, 1, 0, [], [(.string .empty)], 16, 2, false, none⟩ ∧
  tab 12 = ⟨false, 1, 0, [], [(.int .u64 0)], 8, 0, false, some .u64⟩ ∧
  tab 13 = ⟨true, 2, 0, [(0, 1, false), (1, 1, false)], [(.string .empty), (.int .u64 0)], 24, 0, false, none⟩ ∧
  tab 14 = ⟨true, 2, 0, [(0, 1, false), (1, 1, false)], [(.string .empty), (.int .u64 0)], 24, 0, false, none⟩ ∧
  tab 15 = ⟨false, 1, 0, [], [(.pointer none)], 8, 0, false, none⟩ ∧
  tab 16 = ⟨false, 1, 0, [], [(.pointer none)], 8, 0, false, none⟩ ∧
  tab 17 = ⟨false, 1, 0, [], [(.pointer none)], 8, 0, false, none⟩ ∧
  tab 18 = ⟨true, 1, 0, [(0, 1, false)], [(.pointer none)], 8, 0, false, none⟩ ∧
  tab 19 = ⟨true, 1, 0, [(0, 1, false)], [(.pointer none)], 8, 0, false, none⟩ ∧
  tab 21 = ⟨false, 1, 0, [], [(.int .i32 0)], 4, 0, false, some .i32⟩ ∧
  tab 22 = ⟨false, 1, 29, [], [(.slice none 0 0)], 24, 0, true, none⟩ ∧
  tab 23 = ⟨true, 1, 0, [(0, 1, false)], [(.slice none 0 0)], 24, 0, true, none⟩ ∧
  tab 24 = ⟨true, 1, 0, [(0, 1, false)], [(.slice none 0 0)], 24, 0, true, none⟩ ∧
  tab 25 = ⟨true, 4, 0, [(0, 1, false), (1, 1, false), (2, 1, false), (3, 1, false)], [(.int .i64 0), (.int .i64 0), (.int .i64 0), (.int .i64 0)], 32, 0, false, none⟩ ∧
  tab 26 = ⟨true, 4, 0, [(0, 1, false), (1, 1, false), (2, 1, false), (3, 1, false)], [(.int .i64 0), (.int .i64 0), (.int .i64 0), (.int .i64 0)], 32, 0, false, none⟩ ∧
  tab 27 = ⟨true, 7, 0, [(0, 1, true), (1, 4, true), (5, 1, false), (6, 1, false)], [(.slice none 0 0), (.int .i64 0), (.int .i64 0), (.int .i64 0), (.int .i64 0), (.int .i64 0), (.int .i64 0)], 72, 0, true, none⟩ ∧
  tab 28 = ⟨true, 7, 0, [(0, 1, true), (1, 4, true), (5, 1, false), (6, 1, false)], [(.slice none 0 0), (.int .i64 0), (.int .i64 0), (.int .i64 0), (.int .i64 0), (.int .i64 0), (.int .i64 0)], 72, 0, true, none⟩ ∧
  tab 29 = ⟨false, 1, 5, [], [(.slice none 0 0)], 24, 0, true, none⟩ ∧
  tab 30 = ⟨false, 1, 0, [], [.nilFunc], 8, 0, false, none⟩ ∧
  tab 31 = ⟨true, 1, 0, [(0, 1, false)], [(.slice none 0 0)], 24, 0, true, none⟩ ∧
  tab 32 = ⟨true, 4, 0, [(0, 1, false), (1, 1, false), (2, 1, false), (3, 1, false)], [(.int .i64 0), (.int .i64 0), (.int .i64 0), (.int .i64 0)], 32, 0, false, none⟩ ∧
  tab 33 = ⟨true, 7, 0, [(0, 1, true), (1, 4, true), (5, 1, false), (6, 1, false)], [(.slice none 0 0), (.int .i64 0), (.int .i64 0), (.int .i64 0), (.int .i64 0), (.int .i64 0), (.int .i64 0)], 72, 0, true, none⟩ ∧
  tab 34 = ⟨true, 7, 0, [(0, 1, true), (1, 4, true), (5, 1, false), (6, 1, false)], [(.slice none 0 0), (.int .i64 0), (.int .i64 0), (.int .i64 0), (.int .i64 0), (.int .i64 0), (.int .i64 0)], 72, 0, true, none⟩ ∧
  tab 36 = ⟨false, 1, 0, [], [.nilFunc], 8, 0, false, none⟩ ∧
  tab 37 = ⟨false, 1, 0, [], [.nilFunc], 8, 0, false, none⟩ ∧
  tab 38 = ⟨false, 1, 0, [], [.nilFunc], 8, 0, false, none⟩ ∧
  tab 39 = ⟨false, 1, 0, [], [.nilFunc], 8, 0, false, none⟩ ∧
  tab 40 = ⟨false, 1, 0, [], [.nilFunc], 8, 0, false, none⟩ ∧
  tab 41 = ⟨false, 1, 0, [], [.nilFunc], 8, 0, false, none⟩ ∧
  tab 42 = ⟨false, 1, 0, [], [.nilFunc], 8, 0, false, none⟩ ∧
  tab 43 = ⟨false, 1, 0, [], [.nilFunc], 8, 0, false, none⟩ ∧
  tab 44 = ⟨true, 3, 0, [(0, 1, false), (1, 1, false), (2, 1, false)], [(.int .i64 0), (.int .i64 0), (.slice none 0 0)], 40, 0, true, none⟩ ∧
  tab 45 = ⟨true, 3, 0, [(0, 1, false), (1, 1, false), (2, 1, false)], [(.int .i64 0), (.int .i64 0), (.slice none 0 0)], 40, 0, true, none⟩ ∧
  tab 46 = ⟨false, 1, 0, [], [.nilFunc], 8, 0, false, none⟩ ∧
  tab 48 = ⟨false, 1, 0, [], [.nilFunc], 8, 0, false, none⟩ ∧
  tab 49 = ⟨true, 3, 0, [(0, 1, false), (1, 1, false), (2, 1, false)], [(.int .i64 0), (.int .i64 0), (.slice none 0 0)], 40, 0, true, none⟩ ∧
  tab 50 = ⟨false, 1, 0, [], [.nilFunc], 8, 0, false, none⟩ ∧
  tab 51 = ⟨false, 1, 0, [], [.nilFunc], 8, 0, false, none⟩ ∧
  tab 52 = ⟨false, 1, 0, [], [.nilFunc], 8, 0, false, none⟩ ∧
  tab 53 = ⟨false, 1, 0, [], [.nilFunc], 8, 0, false, none⟩ ∧
  tab 54 = ⟨false, 1, 45, [], [(.slice none 0 0)], 24, 0, true, none⟩ ∧
  tab 55 = ⟨false, 1, 0, [], [.nilFunc], 8, 0, false, none⟩ ∧
  tab 57 = ⟨false, 1, 0, [], [.nilFunc], 8, 0, false, none⟩ ∧
  tab 58 = ⟨false, 1, 49, [], [(.slice none 0 0)], 24, 0, true, none⟩ ∧
  tab 59 = ⟨false, 1, 0, [], [.nilFunc], 8, 0, false, none⟩ ∧
  tab 60 = ⟨false, 1, 0, [], [.nilFunc], 8, 0, false, none⟩ ∧
  tab 61 = ⟨false, 1, 0, [], [.nilFunc], 8, 0, false, none⟩ ∧
  tab 62 = ⟨false, 1, 0, [], [.nilFunc], 8, 0, false, none⟩ ∧
  tab 63 = ⟨false, 1, 3, [], [(.slice none 0 0)], 24, 0, true, none⟩ ∧
  tab 64 = ⟨true, 7, 0, [(0, 1, true), (1, 4, true), (5, 1, false), (6, 1, false)], [(.slice none 0 0), (.int .i64 0), (.int .i64 0), (.int .i64 0), (.int .i64 0), (.int .i64 0), (.slice none 0 0)], 88, 0, true, none⟩ ∧
  tab 65 = ⟨true, 7, 0, [(0, 1, true), (1, 4, true), (5, 1, false), (6, 1, false)], [(.slice none 0 0), (.int .i64 0), (.int .i64 0), (.int .i64 0), (.int .i64 0), (.int .i64 0), (.slice none 0 0)], 88, 0, true, none⟩ ∧
  tab 66 = ⟨true, 2, 0, [(0, 1, false), (1, 1, false)], [(.int .i64 0), (.int .i64 0)], 16, 0, false, none⟩ ∧
  tab 67 = ⟨true, 2, 0, [(0, 1, false), (1, 1, false)], [(.int .i64 0), (.int .i64 0)], 16, 0, false, none⟩ ∧
  tab 68 = ⟨false, 1, 0, [], [.nilFunc], 8, 0, false, none⟩ ∧
  tab 69 = ⟨true, 7, 0, [(0, 1, true), (1, 4, true), (5, 1, false), (6, 1, false)], [(.slice none 0 0), (.int .i64 0), (.int .i64 0), (.int .i64 0), (.int .i64 0), (.int .i64 0), (.slice none 0 0)], 88, 0, true, none⟩ ∧
  tab 70 = ⟨true, 7, 0, [(0, 1, true), (1, 4, true), (5, 1, false), (6, 1, false)], [(.slice none 0 0), (.int .i64 0), (.int .i64 0), (.int .i64 0), (.int .i64 0), (.int .i64 0), (.slice none 0 0)], 88, 0, true, none⟩ ∧
  tab 72 = ⟨false, 1, 0, [], [.nilFunc], 8, 0, false, none⟩ ∧
  tab 73 = ⟨false, 1, 0, [], [.nilFunc], 8, 0, false, none⟩ ∧
  tab 74 = ⟨true, 2, 0, [(0, 1, false), (1, 1, false)], [(.int .i64 0), (.int .i64 0)], 16, 0, false, none⟩ ∧
  tab 75 = ⟨false, 1, 0, [], [.nilFunc], 8, 0, false, none⟩ ∧
  tab 76 = ⟨false, 1, 0, [], [.nilFunc], 8, 0, false, none⟩ ∧
  tab 77 = ⟨false, 1, 0, [], [.nilFunc], 8, 0, false, none⟩ ∧
  tab 78 = ⟨false, 1, 0, [], [.nilFunc], 8, 0, false, none⟩ ∧
  tab 79 = ⟨false, 1, 0, [], [.nilFunc], 8, 0, false, none⟩ ∧
  tab 80 = ⟨false, 1, 67, [], [(.slice none 0 0)], 24, 0, true, none⟩ ∧
  tab 81 = ⟨false, 1, 0, [], [.nilFunc], 8, 0, false, none⟩ ∧
  tab 82 = ⟨false, 1, 32, [], [(.slice none 0 0)], 24, 0, true, none⟩ ∧
  tab 84 = ⟨false, 1, 0, [], [.nilFunc], 8, 0, false, none⟩ ∧
  tab 85 = ⟨false, 1, 74, [], [(.slice none 0 0)], 24, 0, true, none⟩ ∧
  tab 86 = ⟨false, 1, 0, [], [.nilFunc], 8, 0, false, none⟩ ∧
  tab 87 = ⟨false, 1, 0, [], [.nilFunc], 8, 0, false, none⟩ ∧
  tab 88 = ⟨false, 1, 0, [], [.nilFunc], 8, 0, false, none⟩ ∧
  tab 89 = ⟨false, 1, 0, [], [.nilFunc], 8, 0, false, none⟩ ∧
  tab 90 = ⟨false, 1, 0, [], [.nilFunc], 8, 0, false, none⟩ ∧
  tab 91 = ⟨false, 1, 0, [], [.nilFunc], 8, 0, false, none⟩ ∧
  tab 92 = ⟨false, 1, 26, [], [(.slice none 0 0)], 24, 0, true, none⟩ ∧
  tab 93 = ⟨true, 1, 0, [(0, 1, false)], [(.slice none 0 0)], 24, 0, true, none⟩ ∧
  tab 94 = ⟨true, 1, 0, [(0, 1, false)], [(.slice none 0 0)], 24, 0, true, none⟩ ∧
  tab 95 = ⟨false, 1, 0, [], [.nilFunc], 8, 0, false, none⟩ ∧
  tab 96 = ⟨false, 1, 0, [], [.nilFunc], 8, 0, false, none⟩ ∧
  tab 97 = ⟨true, 1, 0, [(0, 1, false)], [(.slice none 0 0)], 24, 0, true, none⟩ ∧
  tab 98 = ⟨true, 1, 0, [(0, 1, false)], [(.slice none 0 0)], 24, 0, true, none⟩ ∧
  tab 100 = ⟨false, 1, 0, [], [.nilFunc], 8, 0, false, none⟩ ∧
  tab 101 = ⟨false, 1, 0, [], [.nilFunc], 8, 0, false, none⟩ ∧
  tab 102 = ⟨false, 1, 0, [], [.nilFunc], 8, 0, false, none⟩ ∧
  tab 103 = ⟨false, 1, 0, [], [.nilFunc], 8, 0, false, none⟩ ∧
  tab 104 = ⟨false, 1, 0, [], [.nilFunc], 8, 0, false, none⟩ ∧
  tab 105 = ⟨false, 1, 0, [], [.nilFunc], 8, 0, false, none⟩ ∧
  tab 106 = ⟨false, 1, 0, [], [.nilFunc], 8, 0, false, none⟩ ∧
  tab 107 = ⟨false, 1, 0, [], [.nilFunc], 8, 0, false, none⟩ ∧
  tab 108 = ⟨false, 1, 0, [], [.nilFunc], 8, 0, false, none⟩ ∧
  tab 109 = ⟨false, 1, 0, [], [.nilFunc], 8, 0, false, none⟩ ∧
  tab 110 = ⟨true, 3, 0, [(0, 1, true), (1, 1, false), (2, 1, false)], [(.slice none 0 0), (.slice none 0 0), (.int .i64 0)], 56, 0, true, none⟩ ∧
  tab 111 = ⟨true, 3, 0, [(0, 1, true), (1, 1, false), (2, 1, false)], [(.slice none 0 0), (.slice none 0 0), (.int .i64 0)], 56, 0, true, none⟩ ∧
  tab 112 = ⟨true, 4, 0, [(0, 1, false), (1, 1, false), (2, 1, false), (3, 1, false)], [(.int .i64 0), (.int .i64 0), (.int .i64 0), (.int .i64 0)], 32, 0, false, none⟩ ∧
  tab 113 = ⟨true, 4, 0, [(0, 1, false), (1, 1, false), (2, 1, false), (3, 1, false)], [(.int .i64 0), (.int .i64 0), (.int .i64 0), (.int .i64 0)], 32, 0, false, none⟩ ∧
  tab 114 = ⟨false, 1, 0, [], [.nilFunc], 8, 0, false, none⟩ ∧
  tab 115 = ⟨true, 3, 0, [(0, 1, true), (1, 1, false), (2, 1, false)], [(.slice none 0 0), (.slice none 0 0), (.int .i64 0)], 56, 0, true, none⟩ ∧
  tab 116 = ⟨true, 3, 0, [(0, 1, true), (1, 1, false), (2, 1, false)], [(.slice none 0 0), (.slice none 0 0), (.int .i64 0)], 56, 0, true, none⟩ ∧
  tab 118 = ⟨false, 1, 0, [], [.nilFunc], 8, 0, false, none⟩ ∧
  tab 119 = ⟨false, 1, 0, [], [.nilFunc], 8, 0, false, none⟩ ∧
  tab 120 = ⟨true, 4, 0, [(0, 1, false), (1, 1, false), (2, 1, false), (3, 1, false)], [(.int .i64 0), (.int .i64 0), (.int .i64 0), (.int .i64 0)], 32, 0, false, none⟩ ∧
  tab 121 = ⟨false, 1, 0, [], [.nilFunc], 8, 0, false, none⟩ ∧
  tab 122 = ⟨false, 1, 0, [], [.nilFunc], 8, 0, false, none⟩ ∧
  tab 123 = ⟨false, 1, 0, [], [.nilFunc], 8, 0, false, none⟩ ∧
  tab 124 = ⟨false, 1, 0, [], [.nilFunc], 8, 0, false, none⟩ ∧
  tab 125 = ⟨false, 1, 113, [], [(.slice none 0 0)], 24, 0, true, none⟩ ∧
  tab 126 = ⟨false, 1, 0, [], [.nilFunc], 8, 0, false, none⟩ ∧
  tab 128 = ⟨false, 1, 0, [], [.nilFunc], 8, 0, false, none⟩ ∧
  tab 129 = ⟨false, 1, 120, [], [(.slice none 0 0)], 24, 0, true, none⟩ ∧
  tab 130 = ⟨false, 1, 0, [], [.nilFunc], 8, 0, false, none⟩ ∧
  tab 131 = ⟨false, 1, 0, [], [.nilFunc], 8, 0, false, none⟩ ∧
  tab 132 = ⟨false, 1, 0, [], [.nilFunc], 8, 0, false, none⟩ ∧
  tab 133 = ⟨false, 1, 0, [], [.nilFunc], 8, 0, false, none⟩ ∧
  tab 134 = ⟨false, 1, 0, [], [.nilFunc], 8, 0, false, none⟩ ∧
  tab 135 = ⟨false, 1, 0, [], [.nilFunc], 8, 0, false, none⟩ ∧
  tab 136 = ⟨false, 1, 0, [], [.nilFunc], 8, 0, false, none⟩ ∧
  tab 137 = ⟨false, 1, 0, [], [.nilFunc], 8, 0, false, none⟩ ∧
  tab 138 = ⟨false, 1, 0, [], [.nilFunc], 8, 0, false, none⟩ ∧
  tab 139 = ⟨false, 1, 0, [], [.nilFunc], 8, 0, false, none⟩ ∧
  tab 140 = ⟨false, 1, 0, [], [.nilFunc], 8, 0, false, none⟩ ∧
  tab 141 = ⟨false, 1, 0, [], [.nilFunc], 8, 0, false, none⟩ ∧
  tab 142 = ⟨false, 1, 0, [], [.nilFunc], 8, 0, false, none⟩ ∧
  tab 143 = ⟨false, 1, 0, [], [.nilFunc], 8, 0, false, none⟩ ∧
  tab 144 = ⟨false, 1, 0, [], [.nilFunc], 8, 0, false, none⟩ ∧
  tab 145 = ⟨false, 1, 0, [], [.nilFunc], 8, 0, false, none⟩ ∧
  tab 146 = ⟨false, 1, 0, [], [.nilFunc], 8, 0, false, none⟩ ∧
  tab 147 = ⟨false, 1, 0, [], [.nilFunc], 8, 0, false, none⟩ ∧
  tab 148 = ⟨false, 1, 0, [], [.nilFunc], 8, 0, false, none⟩ ∧
  tab 149 = ⟨false, 1, 0, [], [.nilFunc], 8, 0, false, none⟩ ∧
  tab 150 = ⟨false, 1, 0, [], [.nilFunc], 8, 0, false, none⟩ ∧
  tab 151 = ⟨false, 1, 0, [], [.nilFunc], 8, 0, false, none⟩ ∧
  tab 152 = ⟨false, 1, 0, [], [.nilFunc], 8, 0, false, none⟩ ∧
  tab 153 = ⟨false, 1, 0, [], [.nilFunc], 8, 0, false, none⟩ ∧
  tab 154 = ⟨false, 1, 0, [], [.nilFunc], 8, 0, false, none⟩ ∧
  tab 156 = ⟨false, 1, 0, [], [.nilFunc], 8, 0, false, none⟩ ∧
  tab 157 = ⟨false, 1, 0, [], [.nilFunc], 8, 0, false, none⟩ ∧
  tab 158 = ⟨false, 1, 0, [], [.nilFunc], 8, 0, false, none⟩ ∧
  tab 159 = ⟨false, 1, 0, [], [.nilFunc], 8, 0, false, none⟩ ∧
  tab 160 = ⟨false, 1, 0, [], [.nilFunc], 8, 0, false, none⟩ ∧
  tab 161 = ⟨false, 1, 0, [], [.nilFunc], 8, 0, false, none⟩ ∧
  tab 163 = ⟨false, 1, 0, [], [.nilFunc], 8, 0, false, none⟩ ∧
  tab 165 = ⟨false, 1, 0, [], [.nilFunc], 8, 0, false, none⟩ ∧
  tab 166 = ⟨false, 1, 0, [], [.nilFunc], 8, 0, false, none⟩ ∧
  tab 167 = ⟨false, 1, 0, [], [.nilFunc], 8, 0, false, none⟩ ∧
  tab 168 = ⟨false, 1, 0, [], [.nilFunc], 8, 0, false, none⟩ ∧
  tab 169 = ⟨false, 1, 0, [], [.nilFunc], 8, 0, false, none⟩ ∧
  tab 170 = ⟨false, 1, 0, [], [.nilFunc], 8, 0, false, none⟩ ∧
  tab 172 = ⟨false, 1, 0, [], [.nilFunc], 8, 0, false, none⟩ ∧
  tab 173 = ⟨false, 1, 0, [], [.nilFunc], 8, 0, false, none⟩ ∧
  tab 174 = ⟨false, 1, 0, [], [.nilFunc], 8, 0, false, none⟩ ∧
  tab 176 = ⟨false, 1, 0, [], [.nilFunc], 8, 0, false, none⟩ ∧
  tab 177 = ⟨false, 1, 0, [], [.nilFunc], 8, 0, false, none⟩ ∧
  tab 178 = ⟨false, 1, 0, [], [.nilFunc], 8, 0, false, none⟩ ∧
  tab 179 = ⟨false, 1, 0, [], [.nilFunc], 8, 0, false, none⟩ ∧
  tab 180 = ⟨false, 1, 0, [], [.nilFunc], 8, 0, false, none⟩ ∧
  tab 181 = ⟨false, 1, 0, [], [.nilFunc], 8, 0, false, none⟩ ∧
  tab 182 = ⟨false, 1, 0, [], [.nilFunc], 8, 0, false, none⟩ ∧
  tab 183 = ⟨false, 1, 0, [], [.nilFunc], 8, 0, false, none⟩ ∧
  tab 184 = ⟨false, 1, 0, [], [.nilFunc], 8, 0, false, none⟩ ∧
  tab 185 = ⟨false, 1, 0, [], [.nilFunc], 8, 0, false, none⟩ ∧
  tab 186 = ⟨false, 1, 0, [], [.nilFunc], 8, 0, false, none⟩ ∧
  tab 187 = ⟨false, 1, 0, [], [.nilFunc], 8, 0, false, none⟩ ∧
  tab 188 = ⟨false, 1, 0, [], [(.pointer none)], 8, 0, false, none⟩ ∧
  tab 189 = ⟨false, 1, 0, [], [.nilFunc], 8, 0, false, none⟩ ∧
  tab 191 = ⟨false, 1, 0, [], [.nilFunc], 8, 0, false, none⟩ ∧
  tab 192 = ⟨false, 1, 0, [], [.nilFunc], 8, 0, false, none⟩ ∧
  tab 193 = ⟨false, 1, 0, [], [.nilFunc], 8, 0, false, none⟩ ∧
  tab 194 = ⟨false, 1, 0, [], [(.pointer none)], 8, 0, false, none⟩ ∧
  tab 196 = ⟨false, 1, 0, [], [.nilFunc], 8, 0, false, none⟩ ∧
  tab 198 = ⟨false, 1, 0, [], [.nilFunc], 8, 0, false, none⟩ ∧
  tab 199 = ⟨false, 1, 0, [], [.nilFunc], 8, 0, false, none⟩ ∧
  tab 200 = ⟨false, 1, 82, [], [(.slice none 0 0)], 24, 0, true, none⟩ ∧
  tab 201 = ⟨false, 1, 0, [], [.nilFunc], 8, 0, false, none⟩ ∧
  tab 202 = ⟨false, 1, 0, [], [.nilFunc], 8, 0, false, none⟩ ∧
  tab 203 = ⟨false, 1, 0, [], [.nilFunc], 8, 0, false, none⟩ ∧
  tab 204 = ⟨false, 1, 0, [], [.nilFunc], 8, 0, false, none⟩ ∧
  tab 205 = ⟨false, 1, 0, [], [.nilFunc], 8, 0, false, none⟩ ∧
  tab 206 = ⟨false, 1, 0, [], [.nilFunc], 8, 0, false, none⟩ ∧
  tab 207 = ⟨false, 1, 0, [], [.nilFunc], 8, 0, false, none⟩ ∧
  tab 208 = ⟨false, 1, 0, [], [.nilFunc], 8, 0, false, none⟩ ∧
  tab 209 = ⟨false, 1, 0, [], [(.pointer none)], 8, 0, false, none⟩ ∧
  tab 210 = ⟨false, 1, 0, [], [.nilFunc], 8, 0, false, none⟩ ∧
  tab 211 = ⟨false, 1, 0, [], [.nilFunc], 8, 0, false, none⟩ ∧
  tab 212 = ⟨false, 1, 0, [], [.nilFunc], 8, 0, false, none⟩ ∧
  tab 213 = ⟨false, 1, 0, [], [.nilFunc], 8, 0, false, none⟩ ∧
  tab 215 = ⟨false, 1, 0, [], [.nilFunc], 8, 0, false, none⟩ ∧
  tab 216 = ⟨false, 1, 0, [], [.nilFunc], 8, 0, false, none⟩ ∧
  tab 218 = ⟨false, 1, 0, [], [.nilFunc], 8, 0, false, none⟩ ∧
  tab 219 = ⟨false, 1, 0, [], [.nilFunc], 8, 0, false, none⟩ ∧
  tab 220 = ⟨false, 1, 0, [], [.nilFunc], 8, 0, false, none⟩ ∧
  tab 221 = ⟨false, 1, 0, [], [.nilFunc], 8, 0, false, none⟩ ∧
  tab 222 = ⟨false, 1, 0, [], [.nilFunc], 8, 0, false, none⟩ ∧
  tab 223 = ⟨false, 1, 0, [], [.nilFunc], 8, 0, false, none⟩ ∧
  tab 224 = ⟨false, 1, 0, [], [.nilFunc], 8, 0, false, none⟩ ∧
  tab 225 = ⟨false, 1, 0, [], [.nilFunc], 8, 0, false, none⟩ ∧
  tab 226 = ⟨false, 1, 0, [], [.nilFunc], 8, 0, false, none⟩ ∧
  tab 227 = ⟨false, 1, 0, [], [.nilFunc], 8, 0, false, none⟩ ∧
  tab 228 = ⟨false, 1, 0, [], [.nilFunc], 8, 0, false, none⟩ ∧
  tab 229 = ⟨false, 1, 0, [], [.nilFunc], 8, 0, false, none⟩ ∧
  tab 230 = ⟨false, 1, 0, [], [.nilFunc], 8, 0, false, none⟩ ∧
  tab 231 = ⟨false, 1, 0, [], [.nilFunc], 8, 0, false, none⟩ ∧
  tab 232 = ⟨false, 1, 0, [], [.nilFunc], 8, 0, false, none⟩ ∧
  tab 233 = ⟨false, 1, 0, [], [.nilFunc], 8, 0, false, none⟩ ∧
  tab 234 = ⟨false, 1, 0, [], [.nilFunc], 8, 0, false, none⟩ ∧
  tab 235 = ⟨false, 1, 0, [], [(.pointer none)], 8, 0, false, none⟩ ∧
  tab 236 = ⟨false, 1, 0, [], [.nilFunc], 8, 0, false, none⟩ ∧
  tab 237 = ⟨false, 1, 0, [], [.nilFunc], 8, 0, false, none⟩ ∧
  tab 238 = ⟨false, 1, 0, [], [.nilFunc], 8, 0, false, none⟩ ∧
  tab 240 = ⟨false, 1, 0, [], [.nilFunc], 8, 0, false, none⟩ ∧
  tab 241 = ⟨false, 1, 0, [], [.nilFunc], 8, 0, false, none⟩ ∧
  tab 242 = ⟨false, 1, 0, [], [.nilFunc], 8, 0, false, none⟩ ∧
  tab 243 = ⟨true, 4, 0, [(0, 1, false), (1, 1, false), (2, 1, false), (3, 1, false)], [(.pointer none), (.pointer none), (.pointer none), (.string .empty)], 40, 0, false, none⟩ ∧
  tab 244 = ⟨true, 4, 0, [(0, 1, false), (1, 1, false), (2, 1, false), (3, 1, false)], [(.pointer none), (.pointer none), (.pointer none), (.string .empty)], 40, 0, false, none⟩ ∧
  tab 248 = ⟨false, 1, 0, [], [(.int .u32 0)], 4, 0, false, some .u32⟩ ∧
  tab 249 = ⟨false, 1, 0, [], [(.int .u8 0)], 1, 0, false, some .u8⟩ ∧
  tab 250 = ⟨false, 1, 0, [], [(.int .u8 0)], 1, 0, false, some .u8⟩ ∧
  tab 251 = ⟨false, 1, 0, [], [.nilFunc], 8, 0, false, none⟩ ∧
  tab 252 = ⟨false, 1, 0, [], [(.pointer none)], 8, 0, false, none⟩ ∧
  tab 253 = ⟨false, 1, 0, [], [(.int .i32 0)], 4, 0, false, some .i32⟩ ∧
  tab 254 = ⟨false, 1, 0, [], [(.int .i32 0)], 4, 0, false, some .i32⟩ ∧
  tab 255 = ⟨true, 11, 0, [(0, 1, false), (1, 1, false), (2, 1, false), (3, 1, false), (4, 1, false), (5, 1, false), (6, 1, false), (7, 1, false), (8, 1, false), (9, 1, false), (10, 1, false)], [(.int .u64 0), (.int .u64 0), (.int .u32 0), (.int .u8 0), (.int .u8 0), (.int .u8 0), (.int .u8 0), .nilFunc, (.pointer none), (.int .i32 0), (.int .i32 0)], 48, 0, false, none⟩ ∧
  tab 256 = ⟨true, 11, 0, [(0, 1, false), (1, 1, false), (2, 1, false), (3, 1, false), (4, 1, false), (5, 1, false), (6, 1, false), (7, 1, false), (8, 1, false), (9, 1, false), (10, 1, false)], [(.int .u64 0), (.int .u64 0), (.int .u32 0), (.int .u8 0), (.int .u8 0), (.int .u8 0), (.int .u8 0), .nilFunc, (.pointer none), (.int .i32 0), (.int .i32 0)], 48, 0, false, none⟩ := by
  refine ⟨?_, ?_, ?_, ?_, ?_, ?_, ?_, ?_, ?_, ?_, ?_, ?_, ?_, ?_, ?_, ?_, ?_, ?_, ?_, ?_, ?_, ?_, ?_, ?_, ?_, ?_, ?_, ?_, ?_, ?_, ?_, ?_, ?_, ?_, ?_, ?_, ?_, ?_, ?_, ?_, ?_, ?_, ?_, ?_, ?_, ?_, ?_, ?_, ?_, ?_, ?_, ?_, ?_, ?_, ?_, ?_, ?_, ?_, ?_, ?_, ?_, ?_, ?_, ?_, ?_, ?_, ?_, ?_, ?_, ?_, ?_, ?_, ?_, ?_, ?_, ?_, ?_, ?_, ?_, ?_, ?_, ?_, ?_, ?_, ?_, ?_, ?_, ?_, ?_, ?_, ?_, ?_, ?_, ?_, ?_, ?_, ?_, ?_, ?_, ?_, ?_, ?_, ?_, ?_, ?_, ?_, ?_, ?_, ?_, ?_, ?_, ?_, ?_, ?_, ?_, ?_, ?_, ?_, ?_, ?_, ?_, ?_, ?_, ?_, ?_, ?_, ?_, ?_, ?_, ?_, ?_, ?_, ?_, ?_, ?_, ?_, ?_, ?_, ?_, ?_, ?_, ?_, ?_, ?_, ?_, ?_, ?_, ?_, ?_, ?_, ?_, ?_, ?_, ?_, ?_, ?_, ?_, ?_, ?_, ?_, ?_, ?_, ?_, ?_, ?_, ?_, ?_, ?_, ?_, ?_, ?_, ?_, ?_, ?_, ?_, ?_, ?_, ?_, ?_, ?_, ?_, ?_, ?_, ?_, ?_, ?_, ?_, ?_, ?_, ?_, ?_, ?_, ?_, ?_, ?_, ?_, ?_, ?_, ?_, ?_, ?_, ?_, ?_, ?_, ?_, ?_, ?_, ?_, ?_, ?_, ?_, ?_, ?_, ?_, ?_, ?_, ?_, ?_, ?_, ?_, ?_, ?_, ?_, ?_, ?_, ?_, ?_, ?_, ?_, ?_, ?_, ?_, ?_⟩ <;> rfl
theorem tabOK : TabOK Try.prog tab := tabOf_ok (l := tabL) (by
  refine ⟨?_, ?_, ?_, ?_, ?_, ?_, ?_, ?_, ?_, ?_, ?_, ?_, ?_, ?_, ?_, ?_, ?_, ?_, ?_, ?_, ?_, ?_, ?_, ?_, ?_, ?_, ?_, ?_, ?_, ?_, ?_, ?_, ?_, ?_, ?_, ?_, ?_, ?_, ?_, ?_, ?_, ?_, ?_, ?_, ?_, ?_, ?_, ?_, ?_, ?_, ?_, ?_, ?_, ?_, ?_, ?_, ?_, ?_, ?_, ?_, ?_, ?_, ?_, ?_, ?_, ?_, ?_, ?_, ?_, ?_, ?_, ?_, ?_, ?_, ?_, ?_, ?_, ?_, ?_, ?_, ?_, ?_, ?_, ?_, ?_, ?_, ?_, ?_, ?_, ?_, ?_, ?_, ?_, ?_, ?_, ?_, ?_, ?_, ?_, ?_, ?_, ?_, ?_, ?_, ?_, ?_, ?_, ?_, ?_, ?_, ?_, ?_, ?_, ?_, ?_, ?_, ?_, ?_, ?_, ?_, ?_, ?_, ?_, ?_, ?_, ?_, ?_, ?_, ?_, ?_, ?_, ?_, ?_, ?_, ?_, ?_, ?_, ?_, ?_, ?_, ?_, ?_, ?_, ?_, ?_, ?_, ?_, ?_, ?_, ?_, ?_, ?_, ?_, ?_, ?_, ?_, ?_, ?_, ?_, ?_, ?_, ?_, ?_, ?_, ?_, ?_, ?_, ?_, ?_, ?_, ?_, ?_, ?_, ?_, ?_, ?_, ?_, ?_, ?_, ?_, ?_, ?_, ?_, ?_, ?_, ?_, ?_, ?_, ?_, ?_, ?_, ?_, ?_, ?_, ?_, ?_, ?_, ?_, ?_, ?_, ?_, ?_, ?_, ?_, ?_, ?_, ?_, ?_, ?_, ?_, ?_, ?_, ?_, ?_, ?_, ?_, ?_, ?_, ?_, ?_, ?_, ?_, ?_, ?_, ?_, ?_, ?_, ?_, ?_, ?_, ?_, ?_, ?_, trivial⟩ <;> refine tiok_of ?_ ?_ ?_ ?_ ?_ ?_ ?_ ?_ <;> kernel_rfl)
end Go.Ev
namespace Go.Ev
open Go Go.RowKit Go.Proofs

theorem mo : Try.prog.follows .mixedOrders = true := by kernel_rfl

/-- The seat's program, so many temporaries. -/
noncomputable def En (n : Nat) (k : Nat := 0) : Env := ⟨Try.prog, tab, n, tabOK, mo, k⟩
theorem En_k0 (n k : Nat) : (En n k).k0 = k := rfl
theorem En_tab (n k : Nat) : (En n k).tab = tab := rfl
theorem En_nt (n k : Nat) : (En n k).nt = n := rfl
theorem En_P (n k : Nat) : (En n k).P = Try.prog := rfl

theorem getD0 {α : Type} (x : α) (l : List α) (d : α) : (x :: l).getD 0 d = x := rfl
theorem getD1 {α : Type} (x : α) (l : List α) (n : Nat) (d : α) : (x :: l).getD (n + 1) d = l.getD n d := rfl

theorem wN {E : Env} {ops : Array Oper} {o : Oper} {T : Nat → V} (h : o.guard = none := by rfl) : WantOK E.nt ops o T true := want_none h
theorem wG {E : Env} {ops : Array Oper} {o : Oper} {T : Nat → V} {j d : Nat} {w t y : Bool} (hg : o.guard = some (j, w) := by rfl) (hd : dstOf ops j = some d := by rfl) (hn : d < E.nt := by first | decide | (simp only [En_nt]; decide)) (ht : T d = .val (.bool t) := by simp only [lookT, Nat.reduceEqDiff, ↓reduceIte]; rfl) (hy : y = (t == w) := by rfl) : WantOK E.nt ops o T y := want_some hg hd hn ht hy
theorem wU {E : Env} {ops : Array Oper} {o : Oper} {T : Nat → V} {j d : Nat} {w y : Bool} (hg : o.guard = some (j, w) := by rfl) (hd : dstOf ops j = some d := by rfl) (hn : d < E.nt := by first | decide | (simp only [En_nt]; decide)) (ht : T d = .val undef := by simp only [lookT, Nat.reduceEqDiff, ↓reduceIte]) (hy : y = false := by rfl) : WantOK E.nt ops o T y := want_undef hg hd hn ht hy
theorem mb {p : Prop} (h : p := by simp only [Nat.reduceAdd, Nat.reduceMul]; rfl) : p := h
theorem ma {p : Prop} (h : p := by
      simp only [En_tab, En_nt, act, lookO, lookT, Nat.reduceEqDiff, Nat.reduceLT, ↓reduceIte, tabs, grd, Option.map_some, loadV, storeV, getP, lookR, getD0, getD1, V.cells, List.drop_zero, List.drop_succ_cons, List.take_zero, List.take_succ_cons, List.take_nil, List.drop_nil, cellsAt, cellAt, ofCells, Nat.reduceAdd, Nat.zero_add, bop, binV, unV, pickV, checkV, extractV, convV, cloV, callV, lenV, goInt, cut, eq_self,
        appendV, growV, capV, sliceNV, elsOf, srcK, wrOf, append0V, Option.some_or, Option.none_or, Option.or_none, eqNilV, nilRes, copyV, maxV, buildSliceV, cellsOf, absCell, absCond, absName, andL, List.map_cons, List.map_nil, boxV, allocV, buildV, putParts, putCells, fieldAddrV, fieldV, indexAddrV, sliceV, bndV, makeV, setP, List.set_cons_zero, List.set_cons_succ, List.getElem?_cons_zero, List.getElem?_cons_succ, Option.map_none, List.cons_append, List.nil_append, List.flatten_cons, List.flatten_nil, List.append_nil, List.filterMap_cons, List.filterMap_nil, slT,
        List.all_cons, List.all_nil, oneV, Value.oneCell', Bool.and_true, Bool.and_self, Bool.true_and, List.length_cons, List.length_nil, List.length_map, true_and, and_true, ne_eq, not_false_eq_true, Nat.reduceLeDiff, Int.toNat_natCast, Nat.lt_add_one, Nat.zero_lt_succ, reduceCtorEq, implies_true] <;>
      rfl) : p := h
theorem mc {p : Prop} (h : p := by first | exact True.intro | rfl | (refine ⟨?_, ?_⟩ <;> first | exact True.intro | rfl | decide | (refine ⟨?_, ?_⟩ <;> first | exact True.intro | rfl | decide)) | decide | (simp [List.range_succ] <;> fail)) : p := h
theorem mB {p : Prop} (h : p := by simp only [List.size_toArray, List.length_cons, List.length_nil, Nat.reduceAdd, Nat.reduceMul]; rfl) : p := h
theorem mT {p : Prop} (h : p := by simp only [putT]; rfl) : p := h
theorem mR {p : Prop} (h : p := by simp only [applyW, dropR, lookR, Nat.reduceEqDiff, ↓reduceIte]; rfl) : p := h

theorem ml {p : Prop} (h : p := by simp only [En_nt, lookO, lookT, Nat.reduceEqDiff, Nat.reduceLT, ↓reduceIte]; rfl) : p := h
theorem mS {p : Prop} (h : p := by simp only [En_tab, slT, tabs]; decide) : p := h
theorem mx {p : Prop} (h : p := by simp only [calleeOf, En_nt, lookO, lookT, Nat.reduceEqDiff, Nat.reduceLT, ↓reduceIte, List.map_cons, List.map_nil, List.isEmpty_toArray, List.isEmpty_nil, and_self] <;> rfl) : p := h
theorem mv {p : Prop} (h : p := by simp only [shV, shA, shC, List.map_cons, List.map_nil, noN, noN0, ↓reduceIte, Nat.reduceAdd]; rfl) : p := h
theorem mN {p : Prop} (h : p := by simp only [newsL, applyW, dropR, lookR, Nat.reduceEqDiff, ↓reduceIte]; rfl) : p := h
theorem mr {p : Prop} (h : p := by rfl) : p := h
theorem mK {p : Prop} (h : p := by (try simp only [chkT, chkR]); (repeat' (first | exact True.intro | apply And.intro | exact ⟨_, rfl, rfl, rfl, rfl, rfl⟩ | rfl | decide))) : p := h
theorem mD {p : Prop} (h : p := by first | exact List.nodup_nil | (simp only [List.map_cons, List.map_nil, lookN, Nat.reduceEqDiff, ↓reduceIte]; decide)) : p := h
theorem mQ {p : Prop} (h : p := by first | rfl | (simp only [En_k0, lookN, List.all_cons, List.all_nil]; decide)) : p := h
theorem w64p {i n : Nat} (h : i < n) (hn : n ≤ 9223372036854775807) : IntKind.i64.wrap ((i : Int) + 1) = ((i + 1 : Nat) : Int) := by
  rw [IntKind.wrap_i64]
  have : ((i : Int) + 1) ≤ 9223372036854775807 := by omega
  omega

theorem chkRm {α : Type} {f : α → List V} {ys : List α} {ρ : Nat → Nat} {bd n ty sz : Nat} {R : Rs} {els0 : List (List V)} {l : List (Nat × Root)} (hl : R (ρ n) = some ⟨ty, sz, els0⟩) (hn : n < bd) (he : els0 = ys.map f) (h1 : ∀ a, (f a).map (rnC ρ) = f a) (h2 : ∀ a, (f a).all (okC false bd) = true) (k : chkR ρ bd R l) :
    chkR ρ bd R ((n, ⟨ty, sz, ys.map f⟩) :: l) := by
  refine ⟨⟨hn, _, hl, rfl, rfl, ?_, ?_⟩, k⟩
  · rw [he]
    simp only [List.map_map]
    exact List.map_congr_left fun a _ => (h1 a).symm
  · refine List.all_eq_true.2 fun x hx => ?_
    obtain ⟨a, _, rfl⟩ := List.mem_map.1 hx
    exact h2 a

theorem map_take_succ {α β : Type} {f : α → β} {l : List α} {i : Nat} (d : α) (h : i < l.length) : (l.take i).map f ++ [f (l.getD i d)] = (l.take (i + 1)).map f := by
  rw [List.take_succ_eq_append_getElem h, List.map_append]
  simp [List.getD_eq_getElem?_getD, h]

theorem pure_map {α : Type} {f : α → List V} {l : List α} (h : ∀ a, (f a).all pcell = true) : (l.map f).all (·.all pcell) = true := by
  refine List.all_eq_true.2 fun x hx => ?_
  obtain ⟨a, _, rfl⟩ := List.mem_map.1 hx
  exact h a

/-- Values without own memory and without anything frozen. -/
def scal0 : V → Bool
  | .val _ => true
  | _ => false
def scal1 : V → Bool
  | .agg cs => cs.all scal0
  | x => scal0 x
def scal : V → Bool
  | .tup cs => cs.all scal1
  | x => scal1 x

theorem scal0_ok {ρ : Nat → Nat} {bd : Nat} {x : V} (h : scal0 x = true) : rnC ρ x = x ∧ okC true bd x = true := by
  cases x <;> first | exact ⟨rfl, rfl⟩ | simp [scal0] at h
theorem map_same {f : V → V} : ∀ {cs : List V}, (∀ c, c ∈ cs → f c = c) → cs.map f = cs
  | [], _ => rfl
  | c :: cs, h => by rw [List.map_cons, h c (by simp), map_same fun d hd => h d (by simp [hd])]
theorem scal1_ok {ρ : Nat → Nat} {bd : Nat} {x : V} (h : scal1 x = true) : rnA ρ x = x ∧ okA true bd x = true := by
  cases x with
  | agg cs =>
    have h' := List.all_eq_true.1 h
    exact ⟨by simp only [rnA]; rw [map_same fun c hc => (scal0_ok (bd := 0) (h' c hc)).1], List.all_eq_true.2 fun c hc => (scal0_ok (ρ := id) (h' c hc)).2⟩
  | val u => exact ⟨rfl, rfl⟩
  | _ => simp [scal1, scal0] at h
theorem scal_ok {ρ : Nat → Nat} {bd : Nat} {x : V} (h : scal x = true) : rnV ρ x = x ∧ okV true bd x = true := by
  cases x with
  | tup cs =>
    have h' := List.all_eq_true.1 h
    exact ⟨by simp only [rnV]; rw [map_same fun c hc => (scal1_ok (bd := 0) (h' c hc)).1], List.all_eq_true.2 fun c hc => (scal1_ok (ρ := id) (h' c hc)).2⟩
  | agg cs => exact scal1_ok (x := .agg cs) h
  | val u => exact ⟨rfl, rfl⟩
  | _ => simp [scal, scal1, scal0] at h

section ret
variable {E : Env} {res : List ResultVar} {σ : St} {v : V} {rs : List Root}

theorem resT : ∀ {ts : List Nat} {us : List V}, (∀ t, t ∈ ts → t < E.nt) → ts.map (lookT σ.T) = us → ResL E (lookT σ.T) (lookR σ.R) (ts.map .tmp) us
  | [], us, _, h => by subst h; exact .nil
  | t :: ts, us, hn, h => by
    subst h
    exact .tmp (hn t (by simp)) rfl (resT (fun x hx => hn x (by simp [hx])) rfl)

/-- Results in temporaries, numbers and their kin. -/
theorem retT (ts : List Nat) {us : List V} (hr : res = ts.map .tmp := by rfl) (hn : ts.all (fun t => decide (t < E.nt)) = true := by rfl) (hu : ts.map (lookT σ.T) = us := by simp only [List.map_cons, List.map_nil, lookT, Nat.reduceEqDiff, ↓reduceIte]; rfl) (ok : scal v = true := by rfl) (hv : oneOf us = v) : retK E res v [] .ret σ :=
  ⟨⟨[], us, by rw [hr]; exact resT (fun t ht => by simpa using List.all_eq_true.1 hn t ht) hu, by rw [(scal_ok (bd := 0) ok).1]; exact hv, List.nodup_nil, trivial, (scal_ok (ρ := id) ok).2⟩⟩

/-- Results in temporaries, with roots. -/
theorem retR (ns ts : List Nat) {us : List V} (hr : res = ts.map .tmp := by rfl) (hn : ts.all (fun t => decide (t < E.nt)) = true := by rfl) (hu : ts.map (lookT σ.T) = us := by simp only [List.map_cons, List.map_nil, lookT, Nat.reduceEqDiff, ↓reduceIte]; rfl)
    (hd : ns.Nodup := by decide) (ok : okV true rs.length v = true := by rfl) (hv : oneOf us = rnV (fun k => ns.getD k 0) v) (hR : RootsL (lookR σ.R) ns rs) : retK E res v rs .ret σ :=
  ⟨⟨ns, us, by rw [hr]; exact resT (fun t ht => by simpa using List.all_eq_true.1 hn t ht) hu, hv, hd, hR, ok⟩⟩
end ret
end Go.Ev
namespace Go.Ev
open Go Go.RowKit Go.Proofs

abbrev vi (n : Int) : V := .val (.int .i64 n)
abbrev vb (b : Bool) : V := .val (.bool b)

theorem c133 (x a b : Int) : Good Try.prog 133 [vi x, vi a, vi b] (vb (decide (a ≤ x ∧ x ≤ b))) [] := by
  refine good_of (E := En 15) (fn := Try.f133) (by kernel_rfl) (by kernel_rfl) rfl rfl (by simp only [List.length_cons, List.length_nil]; decide) (fun C0 => ?_)
  simp only [argT, Nat.reduceAdd]
  refine ev_seq fun K1 h1 => ev_rf (b' := 8) rfl ?_
  repeat refine dr_act wN mb ma mc mT mR ?_
  refine dr_nil (h1 _ ?_)
  clear h1 K1
  refine ev_seq fun K1 h1 => ev_rf (b' := 80) rfl ?_
  repeat refine dr_act wN mb ma mc mT mR ?_
  cases hd : decide (x ≥ a) <;> repeat (first | refine dr_act wN mb ma mc mT mR ?_ | refine dr_act wG mb ma mc mT mR ?_ | refine dr_skip wG mT ?_)
  all_goals
    refine dr_nil (h1 _ ?_)
    clear h1 K1
    refine ev_ret ?_
  · refine retT [6] (hv := ?_)
    have : ¬ (a ≤ x ∧ x ≤ b) := fun h => by simp at hd; omega
    rw [decide_eq_false this]; rfl
  · refine retT [6] (hv := ?_)
    have h1 : a ≤ x := by simpa using hd
    show vb _ = vb _
    congr 2
    simp [h1]
end Go.Ev
namespace Go.Ev
open Go Go.RowKit Go.Proofs

abbrev cB (n : Int) : List V := [.val (.int .u8 n)]
def eB (xs : List Int) : V := .list 1 (xs.map cB)
abbrev cM (r : List Int) : List V := [eB r]
def eM (m : List (List Int)) : V := .list 1 (m.map cM)
abbrev eMem (m : List (List Int)) : V := .agg [eM m]
structure Win where (a s n c : Int)
abbrev cW (w : Win) : List V := [vi w.a, vi w.s, vi w.n, vi w.c]
abbrev eW (w : Win) : V := .agg (cW w)

def okMem (m : List (List Int)) : Bool := decide (m.length ≤ 16) && m.all fun r => decide (1 ≤ r.length) && decide (r.length ≤ 64)

theorem c202 (m : List (List Int)) (w : Win) (i : Int) (h1 : 0 ≤ w.a ∧ w.a < m.length) (h2 : IntKind.i64.wrap (w.s + i) = w.s + i) (h3 : 0 ≤ w.s + i ∧ w.s + i < (m.getD w.a.toNat []).length) :
    Good Try.prog 202 [eMem m, eW w, vi i] (.val (.int .u8 ((m.getD w.a.toNat []).getD (w.s + i).toNat 0))) [] := by
  refine good_of (E := En 19) (fn := Try.f202) (by kernel_rfl) (by kernel_rfl) rfl rfl (by simp only [List.length_cons, List.length_nil]; decide) (fun C0 => ?_)
  simp only [argT, Nat.reduceAdd]
  refine ev_seq fun K1 h1' => ev_rf (b' := 24) rfl ?_
  repeat refine dr_act wN mb ma mc mT mR ?_
  refine dr_nil (h1' _ ?_); clear h1' K1
  refine ev_seq fun K1 h1' => ev_reg (b' := 128) rfl ?_
  repeat refine dr_act wN mb ma mc mT mR ?_
  refine dr_ix [] wN mr mb ml ml mS h1 mT ?_
  repeat refine dr_act wN mb ma mc mT mR ?_
  refine dr_ix (0 : Int) wN mr mb (by simp only [En_nt, lookO, lookT, Nat.reduceEqDiff, Nat.reduceLT, ↓reduceIte, eB]; rfl) ml mS (by rw [h2]; exact h3) mT ?_
  rw [h2]
  repeat refine dr_act wN mb ma mc mT mR ?_
  refine dr_nil ⟨fun _ => by kernel_rfl, h1' _ ?_⟩; clear h1' K1
  refine ev_ret ?_
  exact retT [6] (hv := rfl)
end Go.Ev
namespace Go.Ev
open Go Go.RowKit Go.Proofs

/-- The bytes of a window. -/
def bytesOf (m : List (List Int)) (w : Win) : List Int := (List.range w.n.toNat).map fun i => (m.getD w.a.toNat []).getD (w.s + (i : Nat)).toNat 0

/-- A window that lies in its array. -/
structure Fits (m : List (List Int)) (w : Win) : Prop where
  a0 : 0 ≤ w.a
  a1 : w.a < m.length
  s0 : 0 ≤ w.s
  n0 : 0 ≤ w.n
  n1 : w.s + w.n ≤ (m.getD w.a.toNat []).length
  sm : ((m.getD w.a.toNat []).length : Int) ≤ 64

theorem wrap_of {x : Int} (h0 : -9223372036854775808 ≤ x) (h1 : x ≤ 9223372036854775807) : IntKind.i64.wrap x = x := by
  rw [IntKind.wrap_i64]; omega

theorem c185 (m : List (List Int)) (w : Win) (hf : Fits m w) : Good Try.prog 185 [eMem m, eW w] (.ref (0, none) 0 w.n.toNat) [⟨5, 1, (bytesOf m w).map cB⟩] := by
  refine good_of (E := En 22) (fn := Try.f185) (by kernel_rfl) (by kernel_rfl) rfl rfl (by simp only [List.length_cons, List.length_nil]; decide) (fun C0 => ?_)
  simp only [argT, Nat.reduceAdd]
  refine ev_seq fun K1 h1 => ev_rf mB ?_
  repeat refine dr_act wN mb ma mc mT mR ?_
  refine dr_nil (h1 _ ?_); clear h1 K1
  refine ev_seq fun K1 h1 => ev_rf mB ?_
  repeat refine dr_act wN mb ma mc mT mR ?_
  refine dr_nil (h1 _ ?_); clear h1 K1
  have hlen : (bytesOf m w).length = w.n.toNat := by simp [bytesOf]
  have hn64 : w.n.toNat ≤ 64 := by have := hf.n1; have := hf.sm; have := hf.s0; omega
  refine ev_seq fun K1 h1 => ?_
  refine ev_seq fun K2 h2 => ev_rf mB ?_
  repeat refine dr_act wN mb ma mc mT mR ?_
  refine dr_nil (h2 _ ?_); clear h2 K2
  refine ev_block (ev_loop (α := {i : Nat // i ≤ w.n.toNat}) (fun i => ⟨[(2, .ptr (0, none) 0 0), (3, .ptr (8, none) 0 0), (5, .ref (24, none) 0 i.1), (6, vi i.1)], [(24, ⟨5, 1, ((bytesOf m w).take i.1).map cB⟩), (8, ⟨32, 4, [cW w]⟩), (0, ⟨31, 1, [[eM m]]⟩)], 48⟩) (fun i => w.n.toNat - i.1) ⟨0, Nat.zero_le _⟩ (weak_ren [] mK mK mD mQ) (fun ⟨i, hi⟩ => ?_))
  refine ev_seq fun K2 h2 => ev_seq fun K3 h3 => ev_rf mB ?_
  repeat refine dr_act wN mb ma mc mT mR ?_
  refine dr_nil (h3 _ ?_); clear h3
  refine ev_cond _ ml (fun h => ev_skip (h2 _ ?_)) (fun h => ev_exit ?_)
  · clear h1 h2
    have hlt := of_decide_eq_true h
    have hs := hf.s0
    have hn := hf.n1
    have hsm := hf.sm
    have hw : IntKind.i64.wrap (w.s + (i : Nat)) = w.s + (i : Nat) := wrap_of (by omega) (by omega)
    refine ev_seq fun K2 h2 => ev_block (ev_rf mB ?_)
    repeat refine dr_act wN mb ma mc mT mR ?_
    refine dr_callF wN mr mb mx mr (c202 m w i ⟨hf.a0, hf.a1⟩ hw (by omega)) mc mv mT mN ?_
    refine dr_act wN mb ma mc mT mR ?_
    refine dr_act wN mb ma (by exact ⟨by rw [List.length_take]; omega, ⟨by simp only [maxLen]; omega, by omega⟩, rfl⟩) mT mR ?_
    repeat refine dr_act wN mb ma mc mT mR ?_
    refine dr_nil (h2 _ (ev_rf mB ?_)); clear h2
    repeat refine dr_act wN mb ma mc mT mR ?_
    refine dr_nil ⟨⟨i + 1, by omega⟩, by simp only []; omega, ?_⟩
    rw [w64p (n := 64) (by omega) (by omega)]
    refine weak_ren [(24, 128)] mK (chkRm rfl (by decide) ?_ (fun _ => rfl) (fun _ => rfl) mK) mD mQ
    have hi' : i < w.n.toNat := by omega
    rw [← map_take_succ (0 : Int) (by omega)]
    congr 2
    simp [cB, bytesOf, List.getD_eq_getElem?_getD, hi', List.getElem?_map, List.getElem?_range]
  · simp only [seqK, loopK, blkK, ↓reduceIte]
    refine h1 _ ?_; clear h1 h2
    have hge := of_decide_eq_false h
    have hn0 := hf.n0
    obtain rfl : i = w.n.toNat := by omega
    refine ev_seq fun K1 h1 => ev_rf mB ?_
    repeat refine dr_act wN mb ma mc mT mR ?_
    refine dr_nil (h1 _ (ev_ret ?_)); clear h1
    refine retR [24] [4] (hv := rfl) (hR := ⟨⟨?_, ?_⟩, trivial⟩)
    · rw [← hlen, List.take_length]; rfl
    · exact pure_map fun _ => rfl
end Go.Ev
namespace Go.Ev
open Go Go.RowKit Go.Proofs

/-- A row of a root that is told by a list. -/
theorem getP_map {α : Type} {R : Rs} {n ty sz k j s : Nat} {ys : List α} {g : α → List V} {xs : List (List V)} (d : α) (hr : R n = some ⟨ty, sz, ys.map g⟩) (hk : k < ys.length) (hx : (g (ys.getD k d)).getD j .any = .row s xs) : getP R (n, some (k, j)) = some (s, xs) := by
  simp only [getP, hr]
  rw [getD_mapL d [] hk, hx]

theorem set_map {α β : Type} {f : α → β} {l : List α} {k : Nat} {y : α} : (l.map f).set k (f y) = (l.set k y).map f := by
  rw [List.map_set]

theorem set_put {α : Type} {g : α → List V} {ys : List α} {k j : Nat} {y : α} {cs : List V} (d : α) (hk : k < ys.length) (h : putCells (g (ys.getD k d)) j cs = g y) : (ys.map g).set k (putCells ((ys.map g).getD k []) j cs) = (ys.set k y).map g := by
  rw [getD_mapL d [] hk, h, set_map]

/-- Copied so far, zeros behind. -/
def soFar {α : Type} (z : α) (xs : List α) (i : Nat) : List α := xs.take i ++ List.replicate (xs.length - i) z
theorem soFar_length {α : Type} {z : α} {xs : List α} {i : Nat} (h : i ≤ xs.length) : (soFar z xs i).length = xs.length := by
  simp only [soFar, List.length_append, List.length_take, List.length_replicate]; omega
theorem soFar_zero {α : Type} {z : α} {xs : List α} : soFar z xs 0 = List.replicate xs.length z := by simp [soFar]
theorem soFar_full {α : Type} {z : α} {xs : List α} : soFar z xs xs.length = xs := by simp [soFar]
theorem soFar_set {α : Type} {z d : α} {xs : List α} {i : Nat} (h : i < xs.length) : (soFar z xs i).set i (xs.getD i d) = soFar z xs (i + 1) := by
  have e : xs.getD i d = xs[i] := by simp [List.getD_eq_getElem?_getD, h]
  rw [e]
  apply List.ext_getElem?
  intro k
  rw [List.getElem?_set]
  simp only [soFar, List.length_append, List.length_take, List.length_replicate, List.getElem?_append, List.getElem?_take, List.getElem?_replicate, Nat.min_eq_left (Nat.le_of_lt h), Nat.min_eq_left (show i + 1 ≤ xs.length from h)]
  rcases Nat.lt_trichotomy i k with h1 | rfl | h1
  · have e1 : k - i < xs.length - i ↔ k < xs.length := by omega
    have e2 : k - (i + 1) < xs.length - (i + 1) ↔ k < xs.length := by omega
    simp only [e1, e2, show ¬ i = k by omega, show ¬ k < i by omega, show ¬ k < i + 1 by omega, if_false]
  · simp only [if_true, show i < i + 1 by omega, show i < i + (xs.length - i) by omega, List.getElem?_eq_getElem h]
  · simp only [show ¬ i = k by omega, h1, show k < i + 1 by omega, if_true, if_false]

theorem mZ {p : Prop} (h : p := by simp only [En_tab, tabs]; decide) : p := h
theorem mV {p : Prop} (h : p := by simp only [En_tab, tabs, cellsAt, cellAt, ofCells, List.drop_zero, List.take_succ_cons, List.take_zero, List.drop_succ_cons, Nat.reduceAdd]; rfl) : p := h

section rules
variable {E : Env} {C0 : Cx} {T : List (Nat × V)} {R : List (Nat × Root)} {ops : Array Oper} {base i bi : Nat} {o : Oper} {l : List Oper} {T1 : List (Nat × V)} {R1 : List (Nat × Root)} {v : V}
variable {Kd : List (Nat × V) → List (Nat × Root) → List Lg → Prop}

/-- An element's address in own memory. -/
theorem dr_ixp {t : TypeId} {x ix : Operand} {p : Pl} {off len sz : Nat} {xs : List (List V)} {kd : IntKind} {k : Int} (hw : WantOK E.nt ops o (lookT T) true) (ho : o.op = .indexAddr t x ix) (hb : base + 8 * i = bi) (hx : lookO E.nt (lookT T) x = .ref p off len) (hi : lookO E.nt (lookT T) ix = .val (.int kd k)) (hp : getP (lookR R) p = some (sz, xs))
    (hs : slT E.tab t ∧ sz = (E.tab (E.tab t).elem).sz) (h01 : 0 ≤ k ∧ k < len) {ik : Nat} (hik : off + k.toNat = ik) (hT : putT T o.dst (.ptr p ik 0) = T1)
    (hk : Dr E ops base (i + 1) l (fun T' R' lg => Kd T' R' ((opNames (lookO E.nt (lookT T)) o.op, []) :: lg)) T1 R) : Dr E ops base i (o :: l) Kd T R :=
  dr_act hw hb (c := slT E.tab t ∧ (sz = (E.tab (E.tab t).elem).sz ∧ 0 ≤ k ∧ k < len)) (wr := []) (by rw [ho]; simp only [act, hx, hi, indexAddrV, hp, grd, Option.map_some, hik]) ⟨hs.1, hs.2, h01.1, h01.2⟩ hT rfl hk

/-- A load from own memory that is told by a list. -/
theorem dr_ldp {α : Type} {g : α → List V} {ys : List α} (d : α) {t : TypeId} {a : Operand} {p : Pl} {k j sz : Nat} (hw : WantOK E.nt ops o (lookT T) true) (ho : o.op = .load t a) (hb : base + 8 * i = bi) (ha : lookO E.nt (lookT T) a = .ptr p k j) (hp : getP (lookR R) p = some (sz, ys.map g))
    (hk0 : k < ys.length) (hz : (E.tab t).sz ≠ 0 ∧ j + (E.tab t).sz ≤ sz) (hv : ofCells (E.tab t).agg (cellsAt p k j (((g (ys.getD k d)).drop j).take (E.tab t).sz)) = some v) (hT : putT T o.dst v = T1)
    (hk : Dr E ops base (i + 1) l (fun T' R' lg => Kd T' R' ((opNames (lookO E.nt (lookT T)) o.op, []) :: lg)) T1 R) : Dr E ops base i (o :: l) Kd T R :=
  dr_act hw hb (c := (E.tab t).sz ≠ 0 ∧ (k < (ys.map g).length ∧ j + (E.tab t).sz ≤ sz)) (wr := []) (by rw [ho]; simp only [act, ha, loadV, hp, grd]; rw [getD_mapL d [] hk0, hv]; rfl) ⟨hz.1, by rw [List.length_map]; exact hk0, hz.2⟩ hT rfl hk

/-- A part of own memory. -/
theorem dr_slp {t : TypeId} {x : Operand} {lo hi : Option Operand} {p : Pl} {off len sz : Nat} {xs : List (List V)} {a c : Int} (hw : WantOK E.nt ops o (lookT T) true) (ho : o.op = .slice t x lo hi none) (hb : base + 8 * i = bi) (hx : lookO E.nt (lookT T) x = .ref p off len) (hp : getP (lookR R) p = some (sz, xs))
    (hlo : bndV (lo.map (lookO E.nt (lookT T))) 0 = some a) (hhi : bndV (hi.map (lookO E.nt (lookT T))) len = some c) (hs : slT E.tab t ∧ sz = (E.tab (E.tab t).elem).sz) (h01 : 0 ≤ a ∧ a ≤ c ∧ c ≤ len) (hv : V.ref p (off + a.toNat) (c.toNat - a.toNat) = v) (hT : putT T o.dst v = T1)
    (hk : Dr E ops base (i + 1) l (fun T' R' lg => Kd T' R' ((opNames (lookO E.nt (lookT T)) o.op, []) :: lg)) T1 R) : Dr E ops base i (o :: l) Kd T R :=
  dr_act hw hb (c := slT E.tab t ∧ (sz = (E.tab (E.tab t).elem).sz ∧ 0 ≤ a ∧ a ≤ c ∧ c ≤ len)) (wr := []) (by rw [ho]; simp only [act, hx, sliceV, Option.some_or, hlo, hhi, hp, grd, Option.map_some]; rw [hv]) ⟨hs.1, hs.2, h01⟩ hT rfl hk

/-- Bytes copied into own memory. -/
theorem dr_cpp {d s : Operand} {ts : Array TypeId} {t u : TypeId} {p : Pl} {off len : Nat} {xs ys : List (List V)} {r : Root} (hw : WantOK E.nt ops o (lookT T) true) (ho : o.op = .call ⟨.builtin .copy, #[d, s], #[t, u]⟩) (hb : base + 8 * i = bi) (hd : lookO E.nt (lookT T) d = .ref p off len) (hp : getP (lookR R) p = some (1, xs)) (hr : lookR R p.1 = some r)
    (hs : elsOf (lookR R) (lookO E.nt (lookT T) s) = some (1, ys)) (hz : slT E.tab t ∧ (E.tab (E.tab t).elem).sz = 1) (hn : ys.all (·.all notRow) = true) {zs : List (List V)} (hz' : copyL xs ys off (min len ys.length) = zs) (hT : putT T o.dst (.val (goInt (min len ys.length : Nat))) = T1) (hR : applyW R [(p.1, some (setP r p.2 zs))] = R1)
    (hk : Dr E ops base (i + 1) l (fun T' R' lg => Kd T' R' ((opNames (lookO E.nt (lookT T)) o.op, [(p.1, some (setP r p.2 zs))]) :: lg)) T1 R1) : Dr E ops base i (o :: l) Kd T R :=
  dr_act hw hb (c := slT E.tab t ∧ (((E.tab (E.tab t).elem).sz = 1 ∧ (1 : Nat) = 1 ∧ (1 : Nat) = 1) ∧ ys.all (·.all notRow) = true)) (by rw [ho]; simp only [act, callV, List.toList_toArray, hd, hs, copyV, hr, hp, grd, Option.map_some]; rw [hz']) ⟨hz.1, ⟨hz.2, rfl, rfl⟩, hn⟩ hT hR hk

/-- A store into own memory. -/
theorem dr_stp {t : TypeId} {a x : Operand} {y : V} {p : Pl} {k j sz : Nat} {xs zs : List (List V)} {r r' : Root} (hw : WantOK E.nt ops o (lookT T) true) (ho : o.op = .store t a x) (hb : base + 8 * i = bi) (ha : lookO E.nt (lookT T) a = .ptr p k j) (hp : getP (lookR R) p = some (sz, xs)) (hr : lookR R p.1 = some r)
    (hx : lookO E.nt (lookT T) x = y) (hy : y.cells.all oneV = true ∧ y.cells.length = (E.tab t).sz) (hz : (E.tab t).sz ≠ 0) (hk0 : k < xs.length ∧ j + (E.tab t).sz ≤ sz) (hz' : xs.set k (putCells (xs.getD k []) j y.cells) = zs) (hs : setP r p.2 zs = r') (hT : putT T o.dst .any = T1) (hR : applyW R [(p.1, some r')] = R1)
    (hk : Dr E ops base (i + 1) l (fun T' R' lg => Kd T' R' ((opNames (lookO E.nt (lookT T)) o.op, [(p.1, some r')]) :: lg)) T1 R1) : Dr E ops base i (o :: l) Kd T R :=
  dr_act hw hb (c := (E.tab t).sz ≠ 0 ∧ ((y.cells.all oneV = true ∧ y.cells.length = (E.tab t).sz) ∧ k < xs.length ∧ j + (E.tab t).sz ≤ sz)) (by rw [ho]; simp only [act, ha, hx, storeV, hr, hp, grd, Option.map_some]; rw [hz', hs]) ⟨hz, hy, hk0⟩ hT hR hk

/-- Results in temporaries, roots from outside. -/
theorem retRT {res : List ResultVar} {σ : St} {rs' : List (Option Root)} (ns ts : List Nat) {us : List V} (hr : res = ts.map .tmp := by rfl) (hn : ts.all (fun t => decide (t < E.nt)) = true := by rfl) (hu : ts.map (lookT σ.T) = us := by simp only [List.map_cons, List.map_nil, lookT, Nat.reduceEqDiff, ↓reduceIte]; rfl)
    (hd : ns.Nodup ∧ (ns.all fun n => decide (E.k0 ≤ n)) = true := by decide) (hl : E.k0 + ns.length = rs'.length := by rfl) (hv : oneOf us = rnV (dnN E.k0 ns) v := by rfl) (hR : RootsR (lookR σ.R) (dnN E.k0 ns) 0 rs') : retKR E res v rs' .ret σ :=
  ⟨ns, us, by rw [hr]; exact resT (fun t ht => by simpa using List.all_eq_true.1 hn t ht) hu, hv, hd.1, hd.2, hl, hR⟩

/-- One result, in a variable. -/
theorem retC {res : List ResultVar} {σ : St} {rs : List Root} {a t : Nat} {p : Pl} {k j : Nat} {c : Prop} {u : V} {wr : List (Nat × Option Root)} (ns : List Nat) (hr : res = [.cell a t] := by rfl) (hn : a < E.nt := by simp only [En_nt]; decide) (hs : (E.tab t).sz ≠ 0 := by simp only [En_tab, tabs]; decide) (hl : lookT σ.T a = .ptr p k j := by rfl)
    (h : loadV (E.tab t) (lookR σ.R) (.ptr p k j) = some ⟨c, u, wr⟩ := by exact ma) (hc : c := by exact mc) (hd : ns.Nodup := by decide) (ok : okV true rs.length v = true := by rfl) (hv : u = rnV (fun k => ns.getD k 0) v := by rfl) (hR : RootsL (lookR σ.R) ns rs) : retK E res v rs .ret σ :=
  ⟨⟨ns, [u], by rw [hr]; exact .cell hn hs (by rw [hl]; exact h) hc ⟨p, k, j, hl⟩ .nil, hv, hd, hR, ok⟩⟩

theorem rnMap {α : Type} {g : α → List V} {ρ : Nat → Nat} (h : ∀ a, (g a).map (rnC ρ) = g a) (ys : List α) : ys.map g = (ys.map g).map (·.map (rnC ρ)) := by
  rw [List.map_map]
  exact List.map_congr_left fun a _ => (h a).symm

theorem okMap {α : Type} {g : α → List V} {bd : Nat} (h : ∀ a, (g a).all (okC false bd) = true) (ys : List α) : (ys.map g).all (·.all (okC false bd)) = true := by
  refine List.all_eq_true.2 fun x hx => ?_
  obtain ⟨a, _, rfl⟩ := List.mem_map.1 hx
  exact h a
end rules
end Go.Ev
namespace Go.Ev
open Go Go.RowKit Go.Proofs

abbrev cR (l : List Int) : List V := [.row 1 (l.map cB)]
/-- The memory, own: its rows. -/
abbrev rM (m : List (List Int)) : Root := ⟨29, 1, m.map cR⟩

theorem c107 (m : List (List Int)) (w : Win) (hf : Fits m w) (hw : IntKind.i64.wrap (w.s + w.n) = w.s + w.n) :
    GoodR Try.prog 107 [.agg [.ref (0, none) 0 m.length], eW w] [rM m] (.ref (0, some (w.a.toNat, 0)) w.s.toNat w.n.toNat) [some (rM m)] := by
  refine goodR_of (E := En 19 1) (fn := Try.f107) (by kernel_rfl) (by kernel_rfl) rfl rfl (by simp only [List.length_cons, List.length_nil]; decide) ⟨rfl, Nat.le_refl 1⟩ rfl ⟨okMap (fun _ => by simp [okC]) m, trivial⟩ (fun C0 => ?_)
  simp only [argT, rsT, Nat.reduceAdd, List.length_cons, List.length_nil]
  refine ev_seq fun K1 h1 => ev_rf mB ?_
  repeat refine dr_act wN mb ma mc mT mR ?_
  refine dr_nil (h1 _ ?_); clear h1 K1
  have ha := hf.a0
  have ha1 := hf.a1
  refine ev_seq fun K1 h1 => ev_reg mB ?_
  repeat refine dr_act wN mb ma mc mT mR ?_
  refine dr_ixp wN mr mb ml ml mr mS ⟨ha, ha1⟩ (Nat.zero_add _) mT ?_
  refine dr_ldp (g := cR) (ys := m) [] wN mr mb ml mr (by omega) ⟨by decide, Nat.le_refl 1⟩ mV mT ?_
  repeat refine dr_act wN mb ma mc mT mR ?_
  have hs := hf.s0
  have hn := hf.n0
  have hn1 := hf.n1
  refine dr_slp (a := w.s) (c := IntKind.i64.wrap (w.s + w.n)) wN mr mb ml (getP_map (d := []) (g := cR) (ys := m) mr (by omega) mr) mr mr mS (by rw [hw, List.length_map]; omega) (v := .ref (0, some (w.a.toNat, 0)) w.s.toNat w.n.toNat) (by rw [hw]; congr 1 <;> omega) mT ?_
  repeat refine dr_act wN mb ma mc mT mR ?_
  refine dr_nil ⟨fun _ => by kernel_rfl, h1 _ (ev_ret ?_)⟩
  exact retRT [] [4] (hR := ⟨⟨_, rfl, rfl, rfl, rnMap (fun _ => rfl) m⟩, trivial⟩)
end Go.Ev
namespace Go.Ev
open Go Go.RowKit Go.Proofs

theorem c16 (xs : List Int) (hl : xs.length ≤ 1048576) : Good Try.prog 16 [eB xs] (.ref (0, none) 0 xs.length) [⟨5, 1, xs.map cB⟩] := by
  refine good_of (E := En 22) (fn := Try.f16) (by kernel_rfl) (by kernel_rfl) rfl rfl (by simp only [List.length_cons, List.length_nil]; decide) (fun C0 => ?_)
  simp only [argT, Nat.reduceAdd, eB]
  refine ev_seq fun K1 h1 => ev_rf mB ?_
  repeat refine dr_act wN mb ma mc mT mR ?_
  refine dr_nil (h1 _ ?_); clear h1 K1
  refine ev_seq fun K1 h1 => ev_rf mB ?_
  repeat refine dr_act wN mb ma mc mT mR ?_
  refine dr_act wN mb ma (by omega) mT mR ?_
  repeat refine dr_act wN mb ma mc mT mR ?_
  refine dr_nil (h1 _ ?_); clear h1 K1
  refine ev_seq fun K1 h1 => ?_
  refine ev_seq fun K2 h2 => ev_rf mB ?_
  repeat refine dr_act wN mb ma mc mT mR ?_
  refine dr_nil (h2 _ ?_); clear h2 K2
  refine ev_block (ev_loop (α := {i : Nat // i ≤ xs.length}) (fun i => ⟨[(0, .list 1 (xs.map cB)), (3, .ref (24, none) 0 xs.length), (4, vi i.1)], [(24, ⟨5, 1, (soFar 0 xs i.1).map cB⟩)], 48⟩) (fun i => xs.length - i.1) ⟨0, Nat.zero_le _⟩ (weak_ren [] mK (chkRm rfl (by decide) (by rw [soFar_zero, List.map_replicate]) (fun _ => rfl) (fun _ => rfl) mK) mD mQ) (fun ⟨i, hi⟩ => ?_))
  refine ev_seq fun K2 h2 => ev_seq fun K3 h3 => ev_rf mB ?_
  repeat refine dr_act wN mb ma mc mT mR ?_
  refine dr_nil (h3 _ ?_); clear h3
  refine ev_cond _ ml (fun h => ev_skip (h2 _ ?_)) (fun h => ev_exit ?_)
  · clear h1 h2
    have hlt : i < xs.length := by have := of_decide_eq_true h; omega
    refine ev_seq fun K2 h2 => ev_block (ev_rf mB ?_)
    repeat refine dr_act wN mb ma mc mT mR ?_
    refine dr_ix (0 : Int) wN mr mb ml ml mS (by omega) mT ?_
    repeat refine dr_act wN mb ma mc mT mR ?_
    refine dr_ixp wN mr mb ml ml mr mS (by omega) (Nat.zero_add _) mT ?_
    refine dr_stp (zs := (soFar 0 xs (i + 1)).map cB) wN mr mb ml mr mr ml ⟨rfl, rfl⟩ mZ ⟨by rw [List.length_map, Int.toNat_natCast, soFar_length hi]; exact hlt, Nat.le_refl 1⟩ ?_ mr mT mR ?_
    · rw [Int.toNat_natCast, ← soFar_set (d := 0) hlt]
      exact set_put 0 (by rw [soFar_length hi]; exact hlt) rfl
    refine dr_nil (h2 _ (ev_rf mB ?_)); clear h2
    repeat refine dr_act wN mb ma mc mT mR ?_
    refine dr_nil ⟨⟨i + 1, by omega⟩, by simp only []; omega, ?_⟩
    rw [w64p (n := xs.length) (by omega) (by omega)]
    exact weak_ren [] mK (chkRm rfl (by decide) rfl (fun _ => rfl) (fun _ => rfl) mK) mD mQ
  · simp only [seqK, loopK, blkK, ↓reduceIte]
    refine h1 _ ?_; clear h1 h2
    have hge := of_decide_eq_false h
    obtain rfl : i = xs.length := by omega
    refine ev_seq fun K1 h1 => ev_rf mB ?_
    repeat refine dr_act wN mb ma mc mT mR ?_
    refine dr_nil (h1 _ (ev_ret ?_)); clear h1
    refine retR [24] [2] (hv := rfl) (hR := ⟨⟨?_, ?_⟩, trivial⟩)
    · show some (Root.mk 5 1 ((soFar 0 xs xs.length).map cB)) = _
      rw [soFar_full]
    · exact pure_map fun _ => rfl
end Go.Ev
namespace Go.Ev
open Go Go.RowKit Go.Proofs

/-- A row, or none yet. -/
def cO : Option (List Int) → List V
  | some l => cR l
  | none => [.val (.slice none 0 0)]

theorem weak_trans {E : Env} {C0 : Cx} {a b c : St} (h : Weak E C0 a b) (k : Weak E C0 b c) : Weak E C0 a c := fun x w hx => k x w (h x w hx)

theorem c120 (m : List (List Int)) (hl : m.length ≤ 1048576) (hr : ∀ r, r ∈ m → r.length ≤ 1048576) : Good Try.prog 120 [eM m] (.ref (0, none) 0 m.length) [rM m] := by
  refine good_of (E := En 23) (fn := Try.f120) (by kernel_rfl) (by kernel_rfl) rfl rfl (by simp only [List.length_cons, List.length_nil]; decide) (fun C0 => ?_)
  simp only [argT, Nat.reduceAdd, eM]
  refine ev_seq fun K1 h1 => ev_rf mB ?_
  repeat refine dr_act wN mb ma mc mT mR ?_
  refine dr_nil (h1 _ ?_); clear h1 K1
  refine ev_seq fun K1 h1 => ev_rf mB ?_
  repeat refine dr_act wN mb ma mc mT mR ?_
  refine dr_act wN mb ma (by omega) mT mR ?_
  repeat refine dr_act wN mb ma mc mT mR ?_
  refine dr_nil (h1 _ ?_); clear h1 K1
  refine ev_seq fun K1 h1 => ?_
  refine ev_seq fun K2 h2 => ev_rf mB ?_
  repeat refine dr_act wN mb ma mc mT mR ?_
  refine dr_nil (h2 _ ?_); clear h2 K2
  have hlm : (m.map some).length = m.length := List.length_map ..
  refine ev_block (ev_loop (α := {i : Nat // i ≤ m.length}) (fun i => ⟨[(0, .list 1 (m.map cM)), (3, .ref (24, none) 0 m.length), (4, vi i.1)], [(24, ⟨29, 1, (soFar none (m.map some) i.1).map cO⟩)], 48⟩) (fun i => m.length - i.1) ⟨0, Nat.zero_le _⟩ (weak_ren [] mK (chkRm rfl (by decide) (by rw [soFar_zero, List.map_replicate, hlm]; rfl) (fun a => by cases a <;> rfl) (fun a => by cases a <;> simp [cO, okC]) mK) mD mQ) (fun ⟨i, hi⟩ => ?_))
  refine ev_seq fun K2 h2 => ev_seq fun K3 h3 => ev_rf mB ?_
  repeat refine dr_act wN mb ma mc mT mR ?_
  refine dr_nil (h3 _ ?_); clear h3
  refine ev_cond _ ml (fun h => ev_skip (h2 _ ?_)) (fun h => ev_exit ?_)
  · clear h1 h2
    have hlt : i < m.length := by have := of_decide_eq_true h; omega
    have hsl : (soFar none (m.map some) i).length = m.length := by rw [soFar_length (by omega), hlm]
    refine ev_seq fun K2 h2 => ev_block (ev_rf mB ?_)
    repeat refine dr_act wN mb ma mc mT mR ?_
    refine dr_ix ([] : List Int) wN mr mb ml ml mS (by omega) mT ?_
    repeat refine dr_act wN mb ma mc mT mR ?_
    have hri : (m.getD i []).length ≤ 1048576 := by
      rw [List.getD_eq_getElem?_getD, List.getElem?_eq_getElem hlt]; exact hr _ (List.getElem_mem hlt)
    refine dr_callF wN mr mb mx mr (c16 (m.getD i []) hri) (Nat.le_of_ble_eq_true rfl) mv mT mN ?_
    refine dr_ixp wN mr mb ml ml mr mS (by omega) (Nat.zero_add _) mT ?_
    refine dr_stp (zs := ((soFar none (m.map some) i).map cO).set i [.ref (128, none) 0 (m.getD i []).length]) wN mr mb ml mr mr ml ⟨rfl, rfl⟩ mZ ⟨by rw [List.length_map, Int.toNat_natCast, hsl]; exact hlt, Nat.le_refl 1⟩ ?_ mr mT mR ?_
    · rw [Int.toNat_natCast]
      congr 1
      rw [getD_mapL none [] (by omega)]
      have : (soFar none (m.map some) i).getD i none = none := by
        simp [soFar, List.getD_eq_getElem?_getD, List.getElem?_append, hlt, Nat.min_eq_left (Nat.le_of_lt hlt), List.getElem?_replicate]
        split <;> rfl
      rw [this]; rfl
    refine dr_nil (h2 _ (ev_rf mB ?_)); clear h2
    repeat refine dr_act wN mb ma mc mT mR ?_
    refine dr_nil ⟨⟨i + 1, by omega⟩, by simp only []; omega, ?_⟩
    rw [w64p (n := m.length) (by omega) (by omega)]
    have hset : (((soFar none (m.map some) i).map cO).set i [.ref (128, none) 0 (m.getD i []).length])[i]? = some [.ref (128, none) 0 (m.getD i []).length] := by
      rw [List.getElem?_set, if_pos rfl, if_pos (by rw [List.length_map, hsl]; exact hlt)]
    refine weak_trans (weak_abs 24 128 i 0 (b' := 1000) mr mr (by decide) hset rfl (List.length_map ..).symm (by simp [noN0]) rfl rfl (by decide)) ?_
    refine weak_ren [(24, 176)] mK (chkRm rfl (by decide) ?_ (fun a => by cases a <;> rfl) (fun a => by cases a <;> simp [cO, okC]) mK) mD mQ
    have e1 : (m.map some).getD i none = some (m.getD i []) := by simp [List.getD_eq_getElem?_getD, hlt]
    rw [← soFar_set (d := none) (by omega), e1, ← set_map]
    simp only [absR, setP, getD_of_get hset, List.set_set, List.set_cons_zero]
    rfl
  · simp only [seqK, loopK, blkK, ↓reduceIte]
    refine h1 _ ?_; clear h1 h2
    have hge := of_decide_eq_false h
    obtain rfl : i = m.length := by omega
    refine ev_seq fun K1 h1 => ev_rf mB ?_
    repeat refine dr_act wN mb ma mc mT mR ?_
    refine dr_nil (h1 _ (ev_ret ?_)); clear h1
    refine retR [24] [2] (hv := rfl) (hR := ⟨⟨?_, ?_⟩, trivial⟩)
    · show some (Root.mk 29 1 ((soFar none (m.map some) m.length).map cO)) = _
      rw [← hlm, soFar_full, List.map_map]; rfl
    · refine pure_map fun r => ?_
      simp [pcell]
end Go.Ev
namespace Go.Ev
open Go Go.RowKit Go.Proofs

theorem c85 (w : Win) : Good Try.prog 85 [eW w] (eW w) [] := by
  refine good_of (E := En 17) (fn := Try.f85) (by kernel_rfl) (by kernel_rfl) rfl rfl (by simp only [List.length_cons, List.length_nil]; decide) (fun C0 => ?_)
  simp only [argT, Nat.reduceAdd]
  iterate 7
    refine ev_seq fun K1 h1 => ev_rf mB ?_
    repeat refine dr_act wN mb ma mc mT mR ?_
    refine dr_nil (h1 _ ?_); clear h1 K1
  refine ev_ret ?_
  exact retC [] (hR := trivial)

theorem c58 (m : List (List Int)) (hl : m.length ≤ 1048576) (hr : ∀ r, r ∈ m → r.length ≤ 1048576) : Good Try.prog 58 [eMem m] (.agg [.ref (0, none) 0 m.length]) [rM m] := by
  refine good_of (E := En 9) (fn := Try.f58) (by kernel_rfl) (by kernel_rfl) rfl rfl (by simp only [List.length_cons, List.length_nil]; decide) (fun C0 => ?_)
  simp only [argT, Nat.reduceAdd]
  iterate 2
    refine ev_seq fun K1 h1 => ev_rf mB ?_
    repeat refine dr_act wN mb ma mc mT mR ?_
    refine dr_nil (h1 _ ?_); clear h1 K1
  refine ev_seq fun K1 h1 => ev_rf mB ?_
  repeat refine dr_act wN mb ma mc mT mR ?_
  refine dr_callF wN mr mb mx mr (c120 m hl hr) (Nat.le_of_ble_eq_true rfl) mv mT mN ?_
  repeat refine dr_act wN mb ma mc mT mR ?_
  refine dr_nil (h1 _ ?_); clear h1 K1
  refine ev_seq fun K1 h1 => ev_rf mB ?_
  repeat refine dr_act wN mb ma mc mT mR ?_
  refine dr_nil (h1 _ (ev_ret ?_)); clear h1 K1
  refine retC [40] (hR := ⟨⟨rfl, pure_map fun r => by simp [pcell]⟩, trivial⟩)
end Go.Ev
namespace Go.Ev
open Go Go.RowKit Go.Proofs

/-- A gap: its memory, its window, its two marks. -/
structure Gp where
  m : List (List Int)
  w : Win
  p : Int
  q : Int
abbrev cG (x : V) (g : Gp) : List V := [x, vi g.w.a, vi g.w.s, vi g.w.n, vi g.w.c, vi g.p, vi g.q]
abbrev eG (g : Gp) : V := .agg (cG (eM g.m) g)
abbrev oG (n : Nat) (g : Gp) : V := .agg (cG (.ref (n, none) 0 g.m.length) g)

theorem c15 (g : Gp) (hl : g.m.length ≤ 1048576) (hr : ∀ r, r ∈ g.m → r.length ≤ 1048576) : Good Try.prog 15 [eG g] (oG 0 g) [rM g.m] := by
  refine good_of (E := En 19) (fn := Try.f15) (by kernel_rfl) (by kernel_rfl) rfl rfl (by simp only [List.length_cons, List.length_nil]; decide) (fun C0 => ?_)
  simp only [argT, Nat.reduceAdd]
  iterate 2
    refine ev_seq fun K1 h1 => ev_rf mB ?_
    repeat refine dr_act wN mb ma mc mT mR ?_
    refine dr_nil (h1 _ ?_); clear h1 K1
  refine ev_seq fun K1 h1 => ev_rf mB ?_
  repeat refine dr_act wN mb ma mc mT mR ?_
  refine dr_callF wN mr mb mx mr (c58 g.m hl hr) (Nat.le_of_ble_eq_true rfl) mv mT mN ?_
  repeat refine dr_act wN mb ma mc mT mR ?_
  refine dr_nil (h1 _ ?_); clear h1 K1
  refine ev_seq fun K1 h1 => ev_rf mB ?_
  repeat refine dr_act wN mb ma mc mT mR ?_
  refine dr_callF wN mr mb mx mr (c85 g.w) (Nat.le_of_ble_eq_true rfl) mv mT mN ?_
  repeat refine dr_act wN mb ma mc mT mR ?_
  refine dr_nil (h1 _ ?_); clear h1 K1
  iterate 3
    refine ev_seq fun K1 h1 => ev_rf mB ?_
    repeat refine dr_act wN mb ma mc mT mR ?_
    refine dr_nil (h1 _ ?_); clear h1 K1
  refine ev_ret ?_
  refine retC [40] (hR := ⟨⟨rfl, pure_map fun r => by simp [pcell]⟩, trivial⟩)
end Go.Ev
namespace Go.Ev
open Go Go.RowKit Go.Proofs

/-- What is left of a size. -/
def sz1 (xs : List Int) (k : Int) : Int := if k - xs.length < 0 then -1 else k - xs.length

theorem c89 (xs : List Int) (k : Int) (hl : xs.length ≤ maxLen) (h0 : 0 ≤ k ∧ k ≤ 1048576) : Good Try.prog 89 [eB xs, vi k] (vi (sz1 xs k)) [] := by
  refine good_of (E := En 12) (fn := Try.f89) (by kernel_rfl) (by kernel_rfl) rfl rfl (by simp only [List.length_cons, List.length_nil]; decide) (fun C0 => ?_)
  have hw : IntKind.i64.wrap (k - (xs.length : Nat)) = k - (xs.length : Nat) := wrap_of (by simp only [maxLen] at hl; omega) (by omega)
  simp only [argT, Nat.reduceAdd, eB]
  refine ev_seq fun K1 h1 => ev_rf mB ?_
  repeat refine dr_act wN mb ma mc mT mR ?_
  refine dr_nil (h1 _ ?_); clear h1 K1
  refine ev_seq fun K1 h1 => ev_rf mB ?_
  repeat refine dr_act wN mb ma mc mT mR ?_
  refine dr_nil (h1 _ ?_); clear h1 K1
  rw [hw]
  refine ev_seq fun K1 h1 => ev_seq fun K2 h2 => ev_rf mB ?_
  repeat refine dr_act wN mb ma mc mT mR ?_
  refine dr_nil (h2 _ ?_); clear h2 K2
  refine ev_cond _ ml (fun h => ?_) (fun h => ev_skip (h1 _ ?_))
  · have hlt := of_decide_eq_true h
    refine ev_seq fun K2 h2 => ev_rf mB ?_
    repeat refine dr_act wN mb ma mc mT mR ?_
    refine dr_nil (h2 _ (ev_ret ?_)); clear h2 h1
    exact retT [4] (hv := by rw [sz1, if_pos hlt]; rfl)
  · clear h1 K1
    have hge := of_decide_eq_false h
    refine ev_seq fun K2 h2 => ev_rf mB ?_
    repeat refine dr_act wN mb ma mc mT mR ?_
    refine dr_nil (h2 _ (ev_ret ?_)); clear h2
    exact retT [4] (hv := by rw [sz1, if_neg hge]; rfl)

def szF : List (List Int) → Int → Int
  | [], k => k
  | r :: rs, k => if sz1 r k < 0 then -1 else szF rs (sz1 r k)
def szM (m : List (List Int)) (k : Int) : Int := if k - m.length < 0 then -1 else szF m (k - m.length)

theorem sz1_le {xs : List Int} {k : Int} (h : 0 ≤ sz1 xs k) : sz1 xs k ≤ k := by
  unfold sz1 at h ⊢; split at h <;> split <;> omega

theorem c113 (m : List (List Int)) (k : Int) (hl : m.length ≤ maxLen) (hr : ∀ r, r ∈ m → r.length ≤ maxLen) (h0 : 0 ≤ k ∧ k ≤ 1048576) : Good Try.prog 113 [eM m, vi k] (vi (szM m k)) [] := by
  refine good_of (E := En 27) (fn := Try.f113) (by kernel_rfl) (by kernel_rfl) rfl rfl (by simp only [List.length_cons, List.length_nil]; decide) (fun C0 => ?_)
  have hw : IntKind.i64.wrap (k - (m.length : Nat)) = k - (m.length : Nat) := wrap_of (by simp only [maxLen] at hl; omega) (by omega)
  simp only [argT, Nat.reduceAdd, eM]
  refine ev_seq fun K1 h1 => ev_rf mB ?_
  repeat refine dr_act wN mb ma mc mT mR ?_
  refine dr_nil (h1 _ ?_); clear h1 K1
  refine ev_seq fun K1 h1 => ev_rf mB ?_
  repeat refine dr_act wN mb ma mc mT mR ?_
  refine dr_nil (h1 _ ?_); clear h1 K1
  rw [hw]
  refine ev_seq fun K1 h1 => ev_seq fun K2 h2 => ev_rf mB ?_
  repeat refine dr_act wN mb ma mc mT mR ?_
  refine dr_nil (h2 _ ?_); clear h2 K2
  refine ev_cond _ ml (fun h => ?_) (fun h => ev_skip (h1 _ ?_))
  · have hlt := of_decide_eq_true h
    refine ev_seq fun K2 h2 => ev_rf mB ?_
    repeat refine dr_act wN mb ma mc mT mR ?_
    refine dr_nil (h2 _ (ev_ret ?_)); clear h2 h1
    exact retT [4] (hv := by rw [szM, if_pos hlt]; rfl)
  clear h1 K1
  have hge := of_decide_eq_false h
  have hres : szM m k = szF m (k - (m.length : Nat)) := by rw [szM, if_neg hge]
  rw [hres]
  refine ev_seq fun K1 h1 => ?_
  refine ev_seq fun K2 h2 => ev_rf mB ?_
  repeat refine dr_act wN mb ma mc mT mR ?_
  refine dr_nil (h2 _ ?_); clear h2 K2
  refine ev_block (ev_loop (α := {p : Nat × Int // p.1 ≤ m.length ∧ 0 ≤ p.2 ∧ p.2 ≤ 1048576 ∧ szF (m.drop p.1) p.2 = szF m (k - (m.length : Nat))}) (fun p => ⟨[(0, .list 1 (m.map cM)), (1, vi p.1.2), (5, vi p.1.1)], [], 72⟩) (fun p => m.length - p.1.1) ⟨(0, k - (m.length : Nat)), Nat.zero_le _, by show 0 ≤ k - _; omega, by show k - _ ≤ _; omega, rfl⟩ (weak_ren [] mK mK mD mQ) (fun ⟨(i, x), hi, hx0, hx1, hx⟩ => ?_))
  refine ev_seq fun K2 h2 => ev_seq fun K3 h3 => ev_rf mB ?_
  repeat refine dr_act wN mb ma mc mT mR ?_
  refine dr_nil (h3 _ ?_); clear h3
  refine ev_cond _ ml (fun h => ev_skip (h2 _ ?_)) (fun h => ev_exit ?_)
  · clear h1 h2
    have hlt : i < m.length := by have := of_decide_eq_true h; simp only at hi; omega
    have hd : m.drop i = m.getD i [] :: m.drop (i + 1) := by
      rw [List.drop_eq_getElem_cons hlt, List.getD_eq_getElem?_getD, List.getElem?_eq_getElem hlt]; rfl
    have hri : (m.getD i []).length ≤ maxLen := hr _ (by rw [List.getD_eq_getElem?_getD, List.getElem?_eq_getElem hlt]; exact List.getElem_mem hlt)
    simp only [hd, szF] at hx
    refine ev_seq fun K2 h2 => ev_block (ev_seq fun K3 h3 => ev_rf mB ?_)
    repeat refine dr_act wN mb ma mc mT mR ?_
    refine dr_ix ([] : List Int) wN mr mb ml ml mS (by omega) mT ?_
    repeat refine dr_act wN mb ma mc mT mR ?_
    refine dr_callF wN mr mb mx mr (c89 (m.getD i []) x hri ⟨hx0, hx1⟩) (Nat.le_of_ble_eq_true rfl) mv mT mN ?_
    repeat refine dr_act wN mb ma mc mT mR ?_
    refine dr_nil (h3 _ ?_); clear h3
    refine ev_seq fun K3 h3 => ev_rf mB ?_
    repeat refine dr_act wN mb ma mc mT mR ?_
    refine dr_nil (h3 _ ?_); clear h3
    refine ev_cond _ ml (fun h => ?_) (fun h => ev_skip ?_)
    · have hneg := of_decide_eq_true h
      refine ev_seq fun K3 h3 => ev_rf mB ?_
      repeat refine dr_act wN mb ma mc mT mR ?_
      refine dr_nil (h3 _ (ev_ret ?_)); clear h3 h2
      exact retT [4] (hv := by rw [← hx, if_pos hneg]; rfl)
    · have hpos := of_decide_eq_false h
      refine h2 _ (ev_rf mB ?_); clear h2
      repeat refine dr_act wN mb ma mc mT mR ?_
      refine dr_nil ⟨⟨(i + 1, sz1 (m.getD i []) x), hlt, by show 0 ≤ sz1 _ _; omega, by have := sz1_le (xs := m.getD i []) (k := x) (by omega); show sz1 _ _ ≤ _; omega, by rw [if_neg hpos] at hx; exact hx⟩, by simp only []; omega, ?_⟩
      rw [w64p (n := m.length) hlt (by simp only [maxLen] at hl; omega)]
      exact weak_ren [] mK mK mD mQ
  · simp only [seqK, loopK, blkK, ↓reduceIte]
    refine h1 _ ?_; clear h1 h2
    have hge := of_decide_eq_false h
    have hi' : i = m.length := by simp only at hi; omega
    simp only [hi', List.drop_length, szF] at hx
    refine ev_seq fun K1 h1 => ev_rf mB ?_
    repeat refine dr_act wN mb ma mc mT mR ?_
    refine dr_nil (h1 _ (ev_ret ?_)); clear h1
    exact retT [4] (hv := by rw [← hx]; rfl)
end Go.Ev
namespace Go.Ev
open Go Go.RowKit Go.Proofs

/-- Nothing of the memory is too long to be. -/
def Len (m : List (List Int)) : Prop := m.length ≤ maxLen ∧ ∀ r, r ∈ m → r.length ≤ maxLen

theorem szF_le : ∀ (m : List (List Int)) (k : Int), 0 ≤ k → szF m k = -1 ∨ (0 ≤ szF m k ∧ szF m k ≤ k)
  | [], k, h => .inr ⟨h, Int.le_refl k⟩
  | r :: rs, k, h => by
    simp only [szF]
    split
    · exact .inl rfl
    · have h1 : 0 ≤ sz1 r k := by omega
      have h2 := sz1_le h1
      rcases szF_le rs _ h1 with h3 | h3
      · exact .inl h3
      · exact .inr ⟨h3.1, by omega⟩

theorem szM_le (m : List (List Int)) (k : Int) (h : 0 ≤ k) : szM m k = -1 ∨ (0 ≤ szM m k ∧ szM m k ≤ k) := by
  unfold szM
  split
  · exact .inl rfl
  · rcases szF_le m (k - m.length) (by omega) with h1 | h1
    · exact .inl h1
    · exact .inr ⟨h1.1, by omega⟩

theorem c55 (m : List (List Int)) (k : Int) (hl : Len m) (h0 : 0 ≤ k ∧ k ≤ 1048576) : Good Try.prog 55 [eMem m, vi k] (vi (szM m k)) [] := by
  refine good_of (E := En 12) (fn := Try.f55) (by kernel_rfl) (by kernel_rfl) rfl rfl (by simp only [List.length_cons, List.length_nil]; decide) (fun C0 => ?_)
  simp only [argT, Nat.reduceAdd]
  refine ev_seq fun K1 h1 => ev_rf mB ?_
  repeat refine dr_act wN mb ma mc mT mR ?_
  refine dr_nil (h1 _ ?_); clear h1 K1
  refine ev_seq fun K1 h1 => ev_rf mB ?_
  repeat refine dr_act wN mb ma mc mT mR ?_
  refine dr_callF wN mr mb mx mr (c113 m k hl.1 hl.2 h0) (Nat.le_of_ble_eq_true rfl) mv mT mN ?_
  repeat refine dr_act wN mb ma mc mT mR ?_
  refine dr_nil (h1 _ ?_); clear h1 K1
  refine ev_seq fun K1 h1 => ev_seq fun K2 h2 => ev_rf mB ?_
  repeat refine dr_act wN mb ma mc mT mR ?_
  refine dr_nil (h2 _ ?_); clear h2 K2
  refine ev_cond _ ml (fun h => ?_) (fun h => ev_skip (h1 _ ?_))
  · have hlt := of_decide_eq_true h
    refine ev_seq fun K2 h2 => ev_rf mB ?_
    repeat refine dr_act wN mb ma mc mT mR ?_
    refine dr_nil (h2 _ (ev_ret ?_)); clear h2 h1
    exact retT [4] (hv := by rcases szM_le m k h0.1 with e | e <;> first | (rw [e]; rfl) | omega)
  · clear h1 K1
    refine ev_seq fun K2 h2 => ev_rf mB ?_
    repeat refine dr_act wN mb ma mc mT mR ?_
    refine dr_nil (h2 _ (ev_ret ?_)); clear h2
    exact retT [4] (hv := rfl)

theorem c13 (g : Gp) (k : Int) (hl : Len g.m) (h0 : 0 ≤ k ∧ k ≤ 1048576) : Good Try.prog 13 [eG g, vi k] (vi (szM g.m k)) [] := by
  refine good_of (E := En 12) (fn := Try.f13) (by kernel_rfl) (by kernel_rfl) rfl rfl (by simp only [List.length_cons, List.length_nil]; decide) (fun C0 => ?_)
  simp only [argT, Nat.reduceAdd]
  refine ev_seq fun K1 h1 => ev_rf mB ?_
  repeat refine dr_act wN mb ma mc mT mR ?_
  refine dr_nil (h1 _ ?_); clear h1 K1
  refine ev_seq fun K1 h1 => ev_rf mB ?_
  repeat refine dr_act wN mb ma mc mT mR ?_
  refine dr_callF wN mr mb mx mr (c55 g.m k hl h0) (Nat.le_of_ble_eq_true rfl) mv mT mN ?_
  repeat refine dr_act wN mb ma mc mT mR ?_
  refine dr_nil (h1 _ ?_); clear h1 K1
  refine ev_seq fun K1 h1 => ev_seq fun K2 h2 => ev_rf mB ?_
  repeat refine dr_act wN mb ma mc mT mR ?_
  refine dr_nil (h2 _ ?_); clear h2 K2
  refine ev_cond _ ml (fun h => ?_) (fun h => ev_skip (h1 _ ?_))
  · have hlt := of_decide_eq_true h
    refine ev_seq fun K2 h2 => ev_rf mB ?_
    repeat refine dr_act wN mb ma mc mT mR ?_
    refine dr_nil (h2 _ (ev_ret ?_)); clear h2 h1
    exact retT [4] (hv := by rcases szM_le g.m k h0.1 with e | e <;> first | (rw [e]; rfl) | omega)
  · clear h1 K1
    refine ev_seq fun K2 h2 => ev_rf mB ?_
    repeat refine dr_act wN mb ma mc mT mR ?_
    refine dr_nil (h2 _ (ev_ret ?_)); clear h2
    exact retT [4] (hv := rfl)

theorem c41 (a b : Win) : Good Try.prog 41 [eW a, eW b] (vb (decide (a.a = b.a) && decide (a.s = b.s) && decide (a.n = b.n) && decide (a.c = b.c))) [] := by
  refine good_of (E := En 25) (fn := Try.f41) (by kernel_rfl) (by kernel_rfl) rfl rfl (by simp only [List.length_cons, List.length_nil]; decide) (fun C0 => ?_)
  simp only [argT, Nat.reduceAdd]
  refine ev_seq fun K1 h1 => ev_rf mB ?_
  repeat refine dr_act wN mb ma mc mT mR ?_
  refine dr_nil (h1 _ ?_); clear h1 K1
  refine ev_seq fun K1 h1 => ev_seq fun K2 h2 => ev_rf mB ?_
  repeat refine dr_act wN mb ma mc mT mR ?_
  refine dr_nil (h2 _ ?_); clear h2 K2
  refine ev_cond _ ml (fun h => ?_) (fun h => ev_skip (h1 _ ?_))
  · refine ev_seq fun K2 h2 => ev_rf mB ?_
    repeat refine dr_act wN mb ma mc mT mR ?_
    refine dr_nil (h2 _ (ev_ret ?_)); clear h2 h1
    have e : ¬ a.a = b.a := by simpa using h
    exact retT [4] (hv := by rw [decide_eq_false e]; rfl)
  have e1 : a.a = b.a := by simpa using h
  clear h1 K1 h
  refine ev_seq fun K1 h1 => ev_seq fun K2 h2 => ev_rf mB ?_
  repeat refine dr_act wN mb ma mc mT mR ?_
  refine dr_nil (h2 _ ?_); clear h2 K2
  refine ev_cond _ ml (fun h => ?_) (fun h => ev_skip (h1 _ ?_))
  · refine ev_seq fun K2 h2 => ev_rf mB ?_
    repeat refine dr_act wN mb ma mc mT mR ?_
    refine dr_nil (h2 _ (ev_ret ?_)); clear h2 h1
    have e : ¬ a.s = b.s := by simpa using h
    exact retT [4] (hv := by rw [decide_eq_false e, decide_eq_true e1]; rfl)
  have e2 : a.s = b.s := by simpa using h
  clear h1 K1 h
  refine ev_seq fun K1 h1 => ev_seq fun K2 h2 => ev_rf mB ?_
  repeat refine dr_act wN mb ma mc mT mR ?_
  refine dr_nil (h2 _ ?_); clear h2 K2
  refine ev_cond _ ml (fun h => ?_) (fun h => ev_skip (h1 _ ?_))
  · refine ev_seq fun K2 h2 => ev_rf mB ?_
    repeat refine dr_act wN mb ma mc mT mR ?_
    refine dr_nil (h2 _ (ev_ret ?_)); clear h2 h1
    have e : ¬ a.n = b.n := by simpa using h
    exact retT [4] (hv := by rw [decide_eq_false e, decide_eq_true e1, decide_eq_true e2]; rfl)
  have e3 : a.n = b.n := by simpa using h
  clear h1 K1 h
  refine ev_seq fun K1 h1 => ev_seq fun K2 h2 => ev_rf mB ?_
  repeat refine dr_act wN mb ma mc mT mR ?_
  refine dr_nil (h2 _ ?_); clear h2 K2
  refine ev_cond _ ml (fun h => ?_) (fun h => ev_skip (h1 _ ?_))
  · refine ev_seq fun K2 h2 => ev_rf mB ?_
    repeat refine dr_act wN mb ma mc mT mR ?_
    refine dr_nil (h2 _ (ev_ret ?_)); clear h2 h1
    have e : ¬ a.c = b.c := by simpa using h
    exact retT [4] (hv := by rw [decide_eq_false e, decide_eq_true e1, decide_eq_true e2, decide_eq_true e3]; rfl)
  have e4 : a.c = b.c := by simpa using h
  clear h1 K1 h
  refine ev_seq fun K2 h2 => ev_rf mB ?_
  repeat refine dr_act wN mb ma mc mT mR ?_
  refine dr_nil (h2 _ (ev_ret ?_)); clear h2
  exact retT [4] (hv := by rw [decide_eq_true e1, decide_eq_true e2, decide_eq_true e3, decide_eq_true e4]; rfl)
end Go.Ev
namespace Go.Ev
open Go Go.RowKit Go.Proofs

theorem take_eq_succ {α : Type} [DecidableEq α] {a b : List α} {i : Nat} (d : α) (hl : a.length = b.length) (hi : i < a.length) (h : a.take i = b.take i) (e : a.getD i d = b.getD i d) : a.take (i + 1) = b.take (i + 1) := by
  have hb : i < b.length := by omega
  have e' : a[i] = b[i] := by
    rw [List.getD_eq_getElem?_getD, List.getD_eq_getElem?_getD, List.getElem?_eq_getElem hi, List.getElem?_eq_getElem hb] at e
    simpa using e
  have e1 : a.take (i + 1) = a.take i ++ [a[i]] := List.take_succ_eq_append_getElem hi
  have e2 : b.take (i + 1) = b.take i ++ [b[i]] := List.take_succ_eq_append_getElem hb
  rw [e1, e2, h, e']

theorem c19 (a b : List Int) (hl : a.length ≤ maxLen) : Good Try.prog 19 [eB a, eB b] (vb (decide (a = b))) [] := by
  refine good_of (E := En 26) (fn := Try.f19) (by kernel_rfl) (by kernel_rfl) rfl rfl (by simp only [List.length_cons, List.length_nil]; decide) (fun C0 => ?_)
  simp only [argT, Nat.reduceAdd, eB]
  refine ev_seq fun K1 h1 => ev_rf mB ?_
  repeat refine dr_act wN mb ma mc mT mR ?_
  refine dr_nil (h1 _ ?_); clear h1 K1
  refine ev_seq fun K1 h1 => ev_seq fun K2 h2 => ev_rf mB ?_
  repeat refine dr_act wN mb ma mc mT mR ?_
  refine dr_nil (h2 _ ?_); clear h2 K2
  refine ev_cond _ ml (fun h => ?_) (fun h => ev_skip (h1 _ ?_))
  · refine ev_seq fun K2 h2 => ev_rf mB ?_
    repeat refine dr_act wN mb ma mc mT mR ?_
    refine dr_nil (h2 _ (ev_ret ?_)); clear h2 h1
    have e : ¬ a = b := fun e => by subst e; simp at h
    exact retT [4] (hv := by rw [decide_eq_false e]; rfl)
  have hlen : a.length = b.length := by
    have : ((a.length : Int) = b.length) := by simpa using h
    omega
  clear h1 K1 h
  refine ev_seq fun K1 h1 => ?_
  refine ev_seq fun K2 h2 => ev_rf mB ?_
  repeat refine dr_act wN mb ma mc mT mR ?_
  refine dr_nil (h2 _ ?_); clear h2 K2
  refine ev_block (ev_loop (α := {i : Nat // i ≤ a.length ∧ a.take i = b.take i}) (fun i => ⟨[(0, .list 1 (a.map cB)), (1, .list 1 (b.map cB)), (5, vi i.1)], [], 56⟩) (fun i => a.length - i.1) ⟨0, Nat.zero_le _, rfl⟩ (weak_ren [] mK mK mD mQ) (fun ⟨i, hi, ht⟩ => ?_))
  refine ev_seq fun K2 h2 => ev_seq fun K3 h3 => ev_rf mB ?_
  repeat refine dr_act wN mb ma mc mT mR ?_
  refine dr_nil (h3 _ ?_); clear h3
  refine ev_cond _ ml (fun h => ev_skip (h2 _ ?_)) (fun h => ev_exit ?_)
  · clear h1 h2
    have hlt : i < a.length := by have := of_decide_eq_true h; omega
    refine ev_seq fun K2 h2 => ev_block (ev_seq fun K3 h3 => ev_reg mB ?_)
    repeat refine dr_act wN mb ma mc mT mR ?_
    refine dr_ix (0 : Int) wN mr mb ml ml mS (by omega) mT ?_
    repeat refine dr_act wN mb ma mc mT mR ?_
    refine dr_ix (0 : Int) wN mr mb ml ml mS (by omega) mT ?_
    repeat refine dr_act wN mb ma mc mT mR ?_
    refine dr_nil ⟨fun _ => by kernel_rfl, h3 _ ?_⟩; clear h3
    refine ev_cond _ ml (fun h => ?_) (fun h => ev_skip ?_)
    · refine ev_seq fun K3 h3 => ev_rf mB ?_
      repeat refine dr_act wN mb ma mc mT mR ?_
      refine dr_nil (h3 _ (ev_ret ?_)); clear h3 h2
      have e : ¬ a = b := fun e => by subst e; simp at h
      exact retT [4] (hv := by rw [decide_eq_false e]; rfl)
    · have e : a.getD i 0 = b.getD i 0 := by simpa using h
      refine h2 _ (ev_rf mB ?_); clear h2
      repeat refine dr_act wN mb ma mc mT mR ?_
      refine dr_nil ⟨⟨i + 1, hlt, take_eq_succ 0 hlen hlt ht e⟩, by simp only []; omega, ?_⟩
      rw [w64p (n := a.length) hlt (by simp only [maxLen] at hl; omega)]
      exact weak_ren [] mK mK mD mQ
  · simp only [seqK, loopK, blkK, ↓reduceIte]
    refine h1 _ ?_; clear h1 h2
    have hge := of_decide_eq_false h
    obtain rfl : i = a.length := by omega
    have e : a = b := by
      rw [List.take_length] at ht
      rw [ht, hlen, List.take_length]
    refine ev_seq fun K1 h1 => ev_rf mB ?_
    repeat refine dr_act wN mb ma mc mT mR ?_
    refine dr_nil (h1 _ (ev_ret ?_)); clear h1
    exact retT [4] (hv := by rw [decide_eq_true e]; rfl)

theorem c129 (a b : List (List Int)) (hl : Len a) : Good Try.prog 129 [eM a, eM b] (vb (decide (a = b))) [] := by
  refine good_of (E := En 27) (fn := Try.f129) (by kernel_rfl) (by kernel_rfl) rfl rfl (by simp only [List.length_cons, List.length_nil]; decide) (fun C0 => ?_)
  simp only [argT, Nat.reduceAdd, eM]
  refine ev_seq fun K1 h1 => ev_rf mB ?_
  repeat refine dr_act wN mb ma mc mT mR ?_
  refine dr_nil (h1 _ ?_); clear h1 K1
  refine ev_seq fun K1 h1 => ev_seq fun K2 h2 => ev_rf mB ?_
  repeat refine dr_act wN mb ma mc mT mR ?_
  refine dr_nil (h2 _ ?_); clear h2 K2
  refine ev_cond _ ml (fun h => ?_) (fun h => ev_skip (h1 _ ?_))
  · refine ev_seq fun K2 h2 => ev_rf mB ?_
    repeat refine dr_act wN mb ma mc mT mR ?_
    refine dr_nil (h2 _ (ev_ret ?_)); clear h2 h1
    have e : ¬ a = b := fun e => by subst e; simp at h
    exact retT [4] (hv := by rw [decide_eq_false e]; rfl)
  have hlen : a.length = b.length := by
    have : ((a.length : Int) = b.length) := by simpa using h
    omega
  clear h1 K1 h
  refine ev_seq fun K1 h1 => ?_
  refine ev_seq fun K2 h2 => ev_rf mB ?_
  repeat refine dr_act wN mb ma mc mT mR ?_
  refine dr_nil (h2 _ ?_); clear h2 K2
  refine ev_block (ev_loop (α := {i : Nat // i ≤ a.length ∧ a.take i = b.take i}) (fun i => ⟨[(0, .list 1 (a.map cM)), (1, .list 1 (b.map cM)), (5, vi i.1)], [], 56⟩) (fun i => a.length - i.1) ⟨0, Nat.zero_le _, rfl⟩ (weak_ren [] mK mK mD mQ) (fun ⟨i, hi, ht⟩ => ?_))
  refine ev_seq fun K2 h2 => ev_seq fun K3 h3 => ev_rf mB ?_
  repeat refine dr_act wN mb ma mc mT mR ?_
  refine dr_nil (h3 _ ?_); clear h3
  refine ev_cond _ ml (fun h => ev_skip (h2 _ ?_)) (fun h => ev_exit ?_)
  · clear h1 h2
    have hlt : i < a.length := by have := of_decide_eq_true h; omega
    have hai : (a.getD i []).length ≤ maxLen := hl.2 _ (by rw [List.getD_eq_getElem?_getD, List.getElem?_eq_getElem hlt]; exact List.getElem_mem hlt)
    refine ev_seq fun K2 h2 => ev_block (ev_seq fun K3 h3 => ev_reg mB ?_)
    repeat refine dr_act wN mb ma mc mT mR ?_
    refine dr_ix ([] : List Int) wN mr mb ml ml mS (by omega) mT ?_
    repeat refine dr_act wN mb ma mc mT mR ?_
    refine dr_ix ([] : List Int) wN mr mb ml ml mS (by omega) mT ?_
    repeat refine dr_act wN mb ma mc mT mR ?_
    refine dr_callF wN mr mb mx mr (c19 (a.getD i []) (b.getD i []) hai) (Nat.le_of_ble_eq_true rfl) mv mT mN ?_
    repeat refine dr_act wN mb ma mc mT mR ?_
    refine dr_nil ⟨fun _ => by kernel_rfl, h3 _ ?_⟩; clear h3
    refine ev_cond _ ml (fun h => ?_) (fun h => ev_skip ?_)
    · refine ev_seq fun K3 h3 => ev_rf mB ?_
      repeat refine dr_act wN mb ma mc mT mR ?_
      refine dr_nil (h3 _ (ev_ret ?_)); clear h3 h2
      have e : ¬ a = b := fun e => by subst e; simp at h
      exact retT [4] (hv := by rw [decide_eq_false e]; rfl)
    · have e : a.getD i [] = b.getD i [] := by simpa using h
      refine h2 _ (ev_rf mB ?_); clear h2
      repeat refine dr_act wN mb ma mc mT mR ?_
      refine dr_nil ⟨⟨i + 1, hlt, take_eq_succ [] hlen hlt ht e⟩, by simp only []; omega, ?_⟩
      rw [w64p (n := a.length) hlt (by have := hl.1; simp only [maxLen] at this; omega)]
      exact weak_ren [] mK mK mD mQ
  · simp only [seqK, loopK, blkK, ↓reduceIte]
    refine h1 _ ?_; clear h1 h2
    have hge := of_decide_eq_false h
    obtain rfl : i = a.length := by omega
    have e : a = b := by
      rw [List.take_length] at ht
      rw [ht, hlen, List.take_length]
    refine ev_seq fun K1 h1 => ev_rf mB ?_
    repeat refine dr_act wN mb ma mc mT mR ?_
    refine dr_nil (h1 _ (ev_ret ?_)); clear h1
    exact retT [4] (hv := by rw [decide_eq_true e]; rfl)
end Go.Ev
namespace Go.Ev
open Go Go.RowKit Go.Proofs

abbrev qW (a b : Win) : Bool := decide (a.a = b.a) && decide (a.s = b.s) && decide (a.n = b.n) && decide (a.c = b.c)
abbrev qG (a b : Gp) : Bool := decide (a.m = b.m) && qW a.w b.w && decide (a.p = b.p) && decide (a.q = b.q)

theorem c61 (a b : List (List Int)) (hl : Len a) : Good Try.prog 61 [eMem a, eMem b] (vb (decide (a = b))) [] := by
  refine good_of (E := En 11) (fn := Try.f61) (by kernel_rfl) (by kernel_rfl) rfl rfl (by simp only [List.length_cons, List.length_nil]; decide) (fun C0 => ?_)
  simp only [argT, Nat.reduceAdd]
  refine ev_seq fun K1 h1 => ev_rf mB ?_
  repeat refine dr_act wN mb ma mc mT mR ?_
  refine dr_nil (h1 _ ?_); clear h1 K1
  refine ev_seq fun K1 h1 => ev_seq fun K2 h2 => ev_rf mB ?_
  repeat refine dr_act wN mb ma mc mT mR ?_
  refine dr_callF wN mr mb mx mr (c129 a b hl) (Nat.le_of_ble_eq_true rfl) mv mT mN ?_
  repeat refine dr_act wN mb ma mc mT mR ?_
  refine dr_nil (h2 _ ?_); clear h2 K2
  refine ev_cond _ ml (fun h => ?_) (fun h => ev_skip (h1 _ ?_))
  · refine ev_seq fun K2 h2 => ev_rf mB ?_
    repeat refine dr_act wN mb ma mc mT mR ?_
    refine dr_nil (h2 _ (ev_ret ?_)); clear h2 h1
    have e : ¬ a = b := by simpa using h
    exact retT [4] (hv := by rw [decide_eq_false e]; rfl)
  have e1 : a = b := by simpa using h
  clear h1 K1 h
  refine ev_seq fun K2 h2 => ev_rf mB ?_
  repeat refine dr_act wN mb ma mc mT mR ?_
  refine dr_nil (h2 _ (ev_ret ?_)); clear h2
  exact retT [4] (hv := by rw [decide_eq_true e1]; rfl)

theorem c18 (a b : Gp) (hl : Len a.m) : Good Try.prog 18 [eG a, eG b] (vb (qG a b)) [] := by
  refine good_of (E := En 27) (fn := Try.f18) (by kernel_rfl) (by kernel_rfl) rfl rfl (by simp only [List.length_cons, List.length_nil]; decide) (fun C0 => ?_)
  simp only [argT, Nat.reduceAdd]
  refine ev_seq fun K1 h1 => ev_rf mB ?_
  repeat refine dr_act wN mb ma mc mT mR ?_
  refine dr_nil (h1 _ ?_); clear h1 K1
  refine ev_seq fun K1 h1 => ev_seq fun K2 h2 => ev_rf mB ?_
  repeat refine dr_act wN mb ma mc mT mR ?_
  refine dr_callF wN mr mb mx mr (c61 a.m b.m hl) (Nat.le_of_ble_eq_true rfl) mv mT mN ?_
  repeat refine dr_act wN mb ma mc mT mR ?_
  refine dr_nil (h2 _ ?_); clear h2 K2
  refine ev_cond _ ml (fun h => ?_) (fun h => ev_skip (h1 _ ?_))
  · refine ev_seq fun K2 h2 => ev_rf mB ?_
    repeat refine dr_act wN mb ma mc mT mR ?_
    refine dr_nil (h2 _ (ev_ret ?_)); clear h2 h1
    have e : ¬ a.m = b.m := by simpa using h
    exact retT [4] (hv := by rw [qG, decide_eq_false e]; rfl)
  have e1 : a.m = b.m := by simpa using h
  clear h1 K1 h
  refine ev_seq fun K1 h1 => ev_seq fun K2 h2 => ev_rf mB ?_
  repeat refine dr_act wN mb ma mc mT mR ?_
  refine dr_callF wN mr mb mx mr (c41 a.w b.w) (Nat.le_of_ble_eq_true rfl) mv mT mN ?_
  repeat refine dr_act wN mb ma mc mT mR ?_
  refine dr_nil (h2 _ ?_); clear h2 K2
  refine ev_cond _ ml (fun h => ?_) (fun h => ev_skip (h1 _ ?_))
  · refine ev_seq fun K2 h2 => ev_rf mB ?_
    repeat refine dr_act wN mb ma mc mT mR ?_
    refine dr_nil (h2 _ (ev_ret ?_)); clear h2 h1
    have e : qW a.w b.w = false := by have := h; rwa [Bool.not_eq_true'] at this
    have hG : qG a b = false := by rw [qG, e, decide_eq_true e1]; rfl
    exact retT [4] (hv := by rw [hG]; rfl)
  have e2 : qW a.w b.w = true := by have := h; rwa [Bool.not_eq_false'] at this
  have hG : qG a b = (true && true && decide (a.p = b.p) && decide (a.q = b.q)) := by rw [qG, e2, decide_eq_true e1]
  rw [hG]
  clear h1 K1 h
  refine ev_seq fun K1 h1 => ev_seq fun K2 h2 => ev_rf mB ?_
  repeat refine dr_act wN mb ma mc mT mR ?_
  refine dr_nil (h2 _ ?_); clear h2 K2
  refine ev_cond _ ml (fun h => ?_) (fun h => ev_skip (h1 _ ?_))
  · refine ev_seq fun K2 h2 => ev_rf mB ?_
    repeat refine dr_act wN mb ma mc mT mR ?_
    refine dr_nil (h2 _ (ev_ret ?_)); clear h2 h1
    have e : ¬ a.p = b.p := by simpa using h
    exact retT [4] (hv := by rw [decide_eq_false e]; rfl)
  have e3 : a.p = b.p := by simpa using h
  clear h1 K1 h
  refine ev_seq fun K1 h1 => ev_seq fun K2 h2 => ev_rf mB ?_
  repeat refine dr_act wN mb ma mc mT mR ?_
  refine dr_nil (h2 _ ?_); clear h2 K2
  refine ev_cond _ ml (fun h => ?_) (fun h => ev_skip (h1 _ ?_))
  · refine ev_seq fun K2 h2 => ev_rf mB ?_
    repeat refine dr_act wN mb ma mc mT mR ?_
    refine dr_nil (h2 _ (ev_ret ?_)); clear h2 h1
    have e : ¬ a.q = b.q := by simpa using h
    exact retT [4] (hv := by rw [decide_eq_false e, decide_eq_true e3]; rfl)
  have e4 : a.q = b.q := by simpa using h
  clear h1 K1 h
  refine ev_seq fun K2 h2 => ev_rf mB ?_
  repeat refine dr_act wN mb ma mc mT mR ?_
  refine dr_nil (h2 _ (ev_ret ?_)); clear h2
  exact retT [4] (hv := by rw [decide_eq_true e3, decide_eq_true e4]; rfl)

/-- An edit: from where, how much goes, what comes. -/
structure Ed where
  at_ : Int
  n : Int
  s : List Int
abbrev cE (x : V) (e : Ed) : List V := [vi e.at_, vi e.n, x]
abbrev eE (e : Ed) : V := .agg (cE (eB e.s) e)
abbrev qE (a b : Ed) : Bool := decide (a.at_ = b.at_) && decide (a.n = b.n) && decide (a.s = b.s)

theorem c27 (a b : Ed) (hl : a.s.length ≤ maxLen) : Good Try.prog 27 [eE a, eE b] (vb (qE a b)) [] := by
  refine good_of (E := En 21) (fn := Try.f27) (by kernel_rfl) (by kernel_rfl) rfl rfl (by simp only [List.length_cons, List.length_nil]; decide) (fun C0 => ?_)
  simp only [argT, Nat.reduceAdd]
  refine ev_seq fun K1 h1 => ev_rf mB ?_
  repeat refine dr_act wN mb ma mc mT mR ?_
  refine dr_nil (h1 _ ?_); clear h1 K1
  refine ev_seq fun K1 h1 => ev_seq fun K2 h2 => ev_rf mB ?_
  repeat refine dr_act wN mb ma mc mT mR ?_
  refine dr_nil (h2 _ ?_); clear h2 K2
  refine ev_cond _ ml (fun h => ?_) (fun h => ev_skip (h1 _ ?_))
  · refine ev_seq fun K2 h2 => ev_rf mB ?_
    repeat refine dr_act wN mb ma mc mT mR ?_
    refine dr_nil (h2 _ (ev_ret ?_)); clear h2 h1
    have e : ¬ a.at_ = b.at_ := by simpa using h
    exact retT [4] (hv := by rw [qE, decide_eq_false e]; rfl)
  have e1 : a.at_ = b.at_ := by simpa using h
  clear h1 K1 h
  refine ev_seq fun K1 h1 => ev_seq fun K2 h2 => ev_rf mB ?_
  repeat refine dr_act wN mb ma mc mT mR ?_
  refine dr_nil (h2 _ ?_); clear h2 K2
  refine ev_cond _ ml (fun h => ?_) (fun h => ev_skip (h1 _ ?_))
  · refine ev_seq fun K2 h2 => ev_rf mB ?_
    repeat refine dr_act wN mb ma mc mT mR ?_
    refine dr_nil (h2 _ (ev_ret ?_)); clear h2 h1
    have e : ¬ a.n = b.n := by simpa using h
    exact retT [4] (hv := by rw [qE, decide_eq_false e, decide_eq_true e1]; rfl)
  have e2 : a.n = b.n := by simpa using h
  clear h1 K1 h
  refine ev_seq fun K1 h1 => ev_seq fun K2 h2 => ev_rf mB ?_
  repeat refine dr_act wN mb ma mc mT mR ?_
  refine dr_callF wN mr mb mx mr (c19 a.s b.s hl) (Nat.le_of_ble_eq_true rfl) mv mT mN ?_
  repeat refine dr_act wN mb ma mc mT mR ?_
  refine dr_nil (h2 _ ?_); clear h2 K2
  refine ev_cond _ ml (fun h => ?_) (fun h => ev_skip (h1 _ ?_))
  · refine ev_seq fun K2 h2 => ev_rf mB ?_
    repeat refine dr_act wN mb ma mc mT mR ?_
    refine dr_nil (h2 _ (ev_ret ?_)); clear h2 h1
    have e : ¬ a.s = b.s := by simpa using h
    exact retT [4] (hv := by rw [qE, decide_eq_false e, decide_eq_true e1, decide_eq_true e2]; rfl)
  have e3 : a.s = b.s := by simpa using h
  clear h1 K1 h
  refine ev_seq fun K2 h2 => ev_rf mB ?_
  repeat refine dr_act wN mb ma mc mT mR ?_
  refine dr_nil (h2 _ (ev_ret ?_)); clear h2
  exact retT [4] (hv := by rw [qE, decide_eq_true e1, decide_eq_true e2, decide_eq_true e3]; rfl)

theorem c25 (e : Ed) (hl : e.s.length ≤ 1048576) : Good Try.prog 25 [eE e] (.agg (cE (.ref (0, none) 0 e.s.length) e)) [⟨5, 1, e.s.map cB⟩] := by
  refine good_of (E := En 15) (fn := Try.f25) (by kernel_rfl) (by kernel_rfl) rfl rfl (by simp only [List.length_cons, List.length_nil]; decide) (fun C0 => ?_)
  simp only [argT, Nat.reduceAdd]
  iterate 4
    refine ev_seq fun K1 h1 => ev_rf mB ?_
    repeat refine dr_act wN mb ma mc mT mR ?_
    refine dr_nil (h1 _ ?_); clear h1 K1
  refine ev_seq fun K1 h1 => ev_rf mB ?_
  repeat refine dr_act wN mb ma mc mT mR ?_
  refine dr_callF wN mr mb mx mr (c16 e.s hl) (Nat.le_of_ble_eq_true rfl) mv mT mN ?_
  repeat refine dr_act wN mb ma mc mT mR ?_
  refine dr_nil (h1 _ ?_); clear h1 K1
  refine ev_seq fun K1 h1 => ev_rf mB ?_
  repeat refine dr_act wN mb ma mc mT mR ?_
  refine dr_nil (h1 _ (ev_ret ?_)); clear h1 K1
  refine retC [104] (hR := ⟨⟨rfl, pure_map fun r => rfl⟩, trivial⟩)

theorem c23 (e : Ed) (k : Int) (hl : e.s.length ≤ maxLen) (h0 : 0 ≤ k ∧ k ≤ 1048576) : Good Try.prog 23 [eE e, vi k] (vi (sz1 e.s k)) [] := by
  refine good_of (E := En 12) (fn := Try.f23) (by kernel_rfl) (by kernel_rfl) rfl rfl (by simp only [List.length_cons, List.length_nil]; decide) (fun C0 => ?_)
  simp only [argT, Nat.reduceAdd]
  refine ev_seq fun K1 h1 => ev_rf mB ?_
  repeat refine dr_act wN mb ma mc mT mR ?_
  refine dr_nil (h1 _ ?_); clear h1 K1
  refine ev_seq fun K1 h1 => ev_rf mB ?_
  repeat refine dr_act wN mb ma mc mT mR ?_
  refine dr_callF wN mr mb mx mr (c89 e.s k hl h0) (Nat.le_of_ble_eq_true rfl) mv mT mN ?_
  repeat refine dr_act wN mb ma mc mT mR ?_
  refine dr_nil (h1 _ ?_); clear h1 K1
  refine ev_seq fun K1 h1 => ev_seq fun K2 h2 => ev_rf mB ?_
  repeat refine dr_act wN mb ma mc mT mR ?_
  refine dr_nil (h2 _ ?_); clear h2 K2
  refine ev_cond _ ml (fun h => ?_) (fun h => ev_skip (h1 _ ?_))
  · have hlt := of_decide_eq_true h
    refine ev_seq fun K2 h2 => ev_rf mB ?_
    repeat refine dr_act wN mb ma mc mT mR ?_
    refine dr_nil (h2 _ (ev_ret ?_)); clear h2 h1
    exact retT [4] (hv := by unfold sz1 at hlt ⊢; split <;> first | rfl | (exfalso; split at hlt <;> omega))
  · clear h1 K1
    refine ev_seq fun K2 h2 => ev_rf mB ?_
    repeat refine dr_act wN mb ma mc mT mR ?_
    refine dr_nil (h2 _ (ev_ret ?_)); clear h2
    exact retT [4] (hv := rfl)
end Go.Ev
namespace Go.Ev
open Go Go.RowKit Go.Proofs

theorem chkR_cons {ρ : Nat → Nat} {bd n : Nat} {r : Root} {R : Rs} {l : List (Nat × Root)} (h : chkR ρ bd R [(n, r)]) (k : chkR ρ bd R l) : chkR ρ bd R ((n, r) :: l) := ⟨h.1, k⟩

theorem c150 (m : List (List Int)) (hl : m.length ≤ 1048576) (hr : ∀ r, r ∈ m → r.length ≤ 1048576) : Good Try.prog 150 [eMem m] (.agg [.ref (0, none) 0 m.length]) [rM m] := by
  refine good_of (E := En 27) (fn := Try.f150) (by kernel_rfl) (by kernel_rfl) rfl rfl (by simp only [List.length_cons, List.length_nil]; decide) (fun C0 => ?_)
  simp only [argT, Nat.reduceAdd]
  iterate 2
    refine ev_seq fun K1 h1 => ev_rf mB ?_
    repeat refine dr_act wN mb ma mc mT mR ?_
    refine dr_nil (h1 _ ?_); clear h1 K1
  refine ev_seq fun K1 h1 => ?_
  refine ev_seq fun K2 h2 => ev_rf mB ?_
  repeat refine dr_act wN mb ma mc mT mR ?_
  refine dr_nil (h2 _ ?_); clear h2 K2
  refine ev_block (ev_loop (α := {i : Nat // i ≤ m.length}) (fun i => ⟨[(1, .ptr (0, none) 0 0), (2, .ptr (8, none) 0 0), (3, .ptr (32, none) 0 0), (4, vi i.1)], [(0, ⟨31, 1, [[eM m]]⟩), (8, ⟨31, 1, [[.val (.slice none 0 0)]]⟩), (32, ⟨31, 1, [[.ref (16, none) 0 i.1]]⟩), (16, ⟨29, 1, (m.take i.1).map cR⟩)], 56⟩) (fun i => m.length - i.1) ⟨0, Nat.zero_le _⟩ (weak_ren [] mK mK mD mQ) (fun ⟨i, hi⟩ => ?_))
  refine ev_seq fun K2 h2 => ev_seq fun K3 h3 => ev_rf mB ?_
  repeat refine dr_act wN mb ma mc mT mR ?_
  refine dr_nil (h3 _ ?_); clear h3
  refine ev_cond _ ml (fun h => ev_skip (h2 _ ?_)) (fun h => ev_exit ?_)
  · clear h1 h2
    have hlt : i < m.length := by have := of_decide_eq_true h; omega
    have hri : (m.getD i []).length ≤ 1048576 := by
      rw [List.getD_eq_getElem?_getD, List.getElem?_eq_getElem hlt]; exact hr _ (List.getElem_mem hlt)
    have hti : (m.take i).length = i := by rw [List.length_take]; omega
    refine ev_seq fun K2 h2 => ev_block (ev_reg mB ?_)
    repeat refine dr_act wN mb ma mc mT mR ?_
    refine dr_ix ([] : List Int) wN mr mb (by simp only [En_nt, lookO, lookT, Nat.reduceEqDiff, Nat.reduceLT, ↓reduceIte, eM]; rfl) ml mS (by omega) mT ?_
    repeat refine dr_act wN mb ma mc mT mR ?_
    refine dr_act wN mb (by simp only [eB]; exact ma) (by exact ⟨by simp only [maxLen]; omega, by omega⟩) mT mR ?_
    repeat refine dr_act wN mb ma mc mT mR ?_
    refine dr_act wN mb ma (by exact ⟨⟨by decide, by decide, fun x hx => by simp at hx; subst hx; rfl⟩, by simp [notRow], by decide⟩) mT mR ?_
    refine dr_act wN mb ma (by exact ⟨hti.symm, by simp only [maxLen]; omega, by omega⟩) mT mR ?_
    repeat refine dr_act wN mb ma mc mT mR ?_
    refine dr_nil ⟨fun _ => by kernel_rfl, h2 _ (ev_rf mB ?_)⟩; clear h2
    repeat refine dr_act wN mb ma mc mT mR ?_
    refine dr_nil ⟨⟨i + 1, by omega⟩, by simp only []; omega, ?_⟩
    rw [w64p (n := m.length) (by omega) (by omega)]
    refine weak_ren [(16, 176)] mK (chkR_cons mK (chkR_cons mK (chkR_cons mK (chkRm rfl (by decide) ?_ (fun _ => rfl) (fun a => by simp [okC]) trivial)))) mD mQ
    rw [← map_take_succ ([] : List Int) hlt]
  · simp only [seqK, loopK, blkK, ↓reduceIte]
    refine h1 _ ?_; clear h1 h2
    have hge := of_decide_eq_false h
    obtain rfl : i = m.length := by omega
    refine ev_seq fun K1 h1 => ev_rf mB ?_
    repeat refine dr_act wN mb ma mc mT mR ?_
    refine dr_nil (h1 _ (ev_ret ?_)); clear h1
    refine retC [16] (hR := ⟨⟨?_, pure_map fun r => by simp [pcell]⟩, trivial⟩)
    show some (Root.mk 29 1 ((m.take m.length).map cR)) = _
    rw [List.take_length]
end Go.Ev
namespace Go.Ev
open Go Go.RowKit Go.Proofs

theorem c94 (g : Gp) (p q : Int) (hl : g.m.length ≤ 1048576) (hr : ∀ r, r ∈ g.m → r.length ≤ 1048576) : Good Try.prog 94 [eG g, vi p, vi q] (oG 0 { g with p := p, q := q }) [rM g.m] := by
  refine good_of (E := En 15) (fn := Try.f94) (by kernel_rfl) (by kernel_rfl) rfl rfl (by simp only [List.length_cons, List.length_nil]; decide) (fun C0 => ?_)
  simp only [argT, Nat.reduceAdd]
  refine ev_seq fun K1 h1 => ev_rf mB ?_
  repeat refine dr_act wN mb ma mc mT mR ?_
  refine dr_nil (h1 _ ?_); clear h1 K1
  refine ev_seq fun K1 h1 => ev_reg mB ?_
  repeat refine dr_act wN mb ma mc mT mR ?_
  refine dr_callF wN mr mb mx mr (c150 g.m hl hr) (Nat.le_of_ble_eq_true rfl) mv mT mN ?_
  repeat refine dr_act wN mb ma mc mT mR ?_
  refine dr_nil ⟨fun _ => by kernel_rfl, h1 _ (ev_ret ?_)⟩
  exact retC [32] (hR := ⟨⟨rfl, pure_map fun r => by simp [pcell]⟩, trivial⟩)
end Go.Ev
namespace Go.Ev
open Go Go.RowKit Go.Proofs

abbrev w64 (x : Int) : Int := IntKind.i64.wrap x

theorem c92 (g : Gp) : Good Try.prog 92 [eG g] (vi (w64 (g.w.n - w64 (g.q - g.p)))) [] := by
  refine good_of (E := En 12) (fn := Try.f92) (by kernel_rfl) (by kernel_rfl) rfl rfl (by simp only [List.length_cons, List.length_nil]; decide) (fun C0 => ?_)
  simp only [argT, Nat.reduceAdd]
  iterate 2
    refine ev_seq fun K1 h1 => ev_rf mB ?_
    repeat refine dr_act wN mb ma mc mT mR ?_
    refine dr_nil (h1 _ ?_); clear h1 K1
  refine ev_ret ?_
  exact retT [2] (hv := rfl)

theorem c148 (g : Gp) : Good Try.prog 148 [eG g] (vi (w64 (g.w.n - w64 (g.q - g.p)))) [] := by
  refine good_of (E := En 12) (fn := Try.f148) (by kernel_rfl) (by kernel_rfl) rfl rfl (by simp only [List.length_cons, List.length_nil]; decide) (fun C0 => ?_)
  simp only [argT, Nat.reduceAdd]
  iterate 2
    refine ev_seq fun K1 h1 => ev_rf mB ?_
    repeat refine dr_act wN mb ma mc mT mR ?_
    refine dr_nil (h1 _ ?_); clear h1 K1
  refine ev_ret ?_
  exact retT [2] (hv := rfl)

theorem c199 (w : Win) : Good Try.prog 199 [eW w] (vi (w64 (w.c - w.n))) [] := by
  refine good_of (E := En 8) (fn := Try.f199) (by kernel_rfl) (by kernel_rfl) rfl rfl (by simp only [List.length_cons, List.length_nil]; decide) (fun C0 => ?_)
  simp only [argT, Nat.reduceAdd]
  iterate 2
    refine ev_seq fun K1 h1 => ev_rf mB ?_
    repeat refine dr_act wN mb ma mc mT mR ?_
    refine dr_nil (h1 _ ?_); clear h1 K1
  refine ev_ret ?_
  exact retT [2] (hv := rfl)

theorem c101 (w : Win) (a b c : Int) : Good Try.prog 101 [eW w, vi a, vi b, vi c] (eW ⟨w.a, w64 (w.s + a), w64 (b - a), w64 (c - a)⟩) [] := by
  refine good_of (E := En 22) (fn := Try.f101) (by kernel_rfl) (by kernel_rfl) rfl rfl (by simp only [List.length_cons, List.length_nil]; decide) (fun C0 => ?_)
  simp only [argT, Nat.reduceAdd]
  iterate 2
    refine ev_seq fun K1 h1 => ev_rf mB ?_
    repeat refine dr_act wN mb ma mc mT mR ?_
    refine dr_nil (h1 _ ?_); clear h1 K1
  refine ev_ret ?_
  exact retC [] (hR := trivial)

theorem c200 (a b : Int) : Good Try.prog 200 [vi a, vi b] (vi (if a < b then a else b)) [] := by
  refine good_of (E := En 10) (fn := Try.f200) (by kernel_rfl) (by kernel_rfl) rfl rfl (by simp only [List.length_cons, List.length_nil]; decide) (fun C0 => ?_)
  simp only [argT, Nat.reduceAdd]
  refine ev_seq fun K1 h1 => ev_rf mB ?_
  repeat refine dr_act wN mb ma mc mT mR ?_
  refine dr_nil (h1 _ ?_); clear h1 K1
  refine ev_seq fun K1 h1 => ev_seq fun K2 h2 => ev_rf mB ?_
  repeat refine dr_act wN mb ma mc mT mR ?_
  refine dr_nil (h2 _ ?_); clear h2 K2
  refine ev_cond _ ml (fun h => ?_) (fun h => ev_skip (h1 _ ?_))
  · have hlt := of_decide_eq_true h
    refine ev_seq fun K2 h2 => ev_rf mB ?_
    repeat refine dr_act wN mb ma mc mT mR ?_
    refine dr_nil (h2 _ (ev_ret ?_)); clear h2 h1
    exact retT [4] (hv := by rw [if_pos hlt]; rfl)
  · have hge := of_decide_eq_false h
    refine ev_seq fun K2 h2 => ev_rf mB ?_
    repeat refine dr_act wN mb ma mc mT mR ?_
    refine dr_nil (h2 _ (ev_ret ?_)); clear h2
    exact retT [4] (hv := by rw [if_neg hge]; rfl)

theorem c201 (a b : Int) : Good Try.prog 201 [vi a, vi b] (vi (if a > b then a else b)) [] := by
  refine good_of (E := En 10) (fn := Try.f201) (by kernel_rfl) (by kernel_rfl) rfl rfl (by simp only [List.length_cons, List.length_nil]; decide) (fun C0 => ?_)
  simp only [argT, Nat.reduceAdd]
  refine ev_seq fun K1 h1 => ev_rf mB ?_
  repeat refine dr_act wN mb ma mc mT mR ?_
  refine dr_nil (h1 _ ?_); clear h1 K1
  refine ev_seq fun K1 h1 => ev_seq fun K2 h2 => ev_rf mB ?_
  repeat refine dr_act wN mb ma mc mT mR ?_
  refine dr_nil (h2 _ ?_); clear h2 K2
  refine ev_cond _ ml (fun h => ?_) (fun h => ev_skip (h1 _ ?_))
  · have hlt := of_decide_eq_true h
    refine ev_seq fun K2 h2 => ev_rf mB ?_
    repeat refine dr_act wN mb ma mc mT mR ?_
    refine dr_nil (h2 _ (ev_ret ?_)); clear h2 h1
    exact retT [4] (hv := by rw [if_pos hlt]; rfl)
  · have hge := of_decide_eq_false h
    refine ev_seq fun K2 h2 => ev_rf mB ?_
    repeat refine dr_act wN mb ma mc mT mR ?_
    refine dr_nil (h2 _ (ev_ret ?_)); clear h2
    exact retT [4] (hv := by rw [if_neg hge]; rfl)

theorem c123 (x a b : Int) : Good Try.prog 123 [vi x, vi a, vi b] (vb (decide (a ≤ x ∧ x ≤ b))) [] := by
  refine good_of (E := En 15) (fn := Try.f123) (by kernel_rfl) (by kernel_rfl) rfl rfl (by simp only [List.length_cons, List.length_nil]; decide) (fun C0 => ?_)
  simp only [argT, Nat.reduceAdd]
  refine ev_seq fun K1 h1 => ev_rf (b' := 8) rfl ?_
  repeat refine dr_act wN mb ma mc mT mR ?_
  refine dr_nil (h1 _ ?_)
  clear h1 K1
  refine ev_seq fun K1 h1 => ev_rf (b' := 80) rfl ?_
  repeat refine dr_act wN mb ma mc mT mR ?_
  cases hd : decide (x ≥ a) <;> repeat (first | refine dr_act wN mb ma mc mT mR ?_ | refine dr_act wG mb ma mc mT mR ?_ | refine dr_skip wG mT ?_)
  all_goals
    refine dr_nil (h1 _ ?_)
    clear h1 K1
    refine ev_ret ?_
  · refine retT [6] (hv := ?_)
    have : ¬ (a ≤ x ∧ x ≤ b) := fun h => by simp at hd; omega
    rw [decide_eq_false this]; rfl
  · refine retT [6] (hv := ?_)
    have h1 : a ≤ x := by simpa using hd
    show vb _ = vb _
    congr 2
    simp [h1]
end Go.Ev
