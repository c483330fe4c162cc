/- The sums of the example disk of layer 61. Printed by genaudK.py. -/
import Derived.Test.YthbdmfbjkkmplaaAud0
namespace Go.Proofs.Ythbdmfbjkkmplaa.Sha

set_option maxRecDepth 1000000 in
theorem kx : chain z16 (0 :: 0 :: 0 :: [1, 0, 0, 0, 0, 0, 0, 0, 0, 0, 0, 0, 0, 0, 0, 0, 0, 0, 0, 0, 0, 0, 0, 0, 0, 0, 0, 0, 0, 0, 0, 0]) = [162, 33, 161, 18, 81, 243, 133, 148, 43, 227, 23, 148, 230, 76, 36, 42] := by decide +kernel
set_option maxRecDepth 1000000 in
theorem ky : chain z16 (0 :: 0 :: 1 :: [2, 0, 0, 0, 0, 0, 0, 0, 0, 0, 0, 0, 0, 0, 0, 0, 0, 0, 0, 0, 0, 0, 0, 0, 0, 0, 0, 0, 0, 0, 0, 0]) = [191, 180, 220, 7, 43, 126, 238, 234, 252, 82, 66, 105, 102, 200, 230, 123] := by decide +kernel
set_option maxRecDepth 1000000 in
theorem ku : chain z16 (0 :: 0 :: 0 :: [2, 0, 0, 0, 0, 0, 0, 0, 0, 0, 0, 0, 0, 0, 0, 0, 0, 0, 0, 0, 0, 0, 0, 0, 0, 0, 0, 0, 0, 0, 0, 0]) = [191, 114, 75, 27, 7, 98, 20, 225, 137, 96, 104, 163, 29, 37, 81, 77] := by decide +kernel
set_option maxRecDepth 1000000 in
theorem kox : oneS [162, 33, 161, 18, 81, 243, 133, 148, 43, 227, 23, 148, 230, 76, 36, 42] = [117, 62, 159, 97, 205, 97, 135, 182, 225, 207, 20, 123, 125, 41, 227, 30] := by decide +kernel
set_option maxRecDepth 1000000 in
theorem koy : oneS [191, 180, 220, 7, 43, 126, 238, 234, 252, 82, 66, 105, 102, 200, 230, 123] = [128, 25, 23, 141, 228, 217, 76, 3, 127, 247, 201, 198, 84, 12, 189, 14] := by decide +kernel
set_option maxRecDepth 1000000 in
theorem kou : oneS [191, 114, 75, 27, 7, 98, 20, 225, 137, 96, 104, 163, 29, 37, 81, 77] = [44, 214, 239, 220, 104, 18, 185, 8, 144, 241, 38, 94, 219, 115, 150, 147] := by decide +kernel
set_option maxRecDepth 1000000 in
theorem kr : joinS [117, 62, 159, 97, 205, 97, 135, 182, 225, 207, 20, 123, 125, 41, 227, 30] [128, 25, 23, 141, 228, 217, 76, 3, 127, 247, 201, 198, 84, 12, 189, 14] = [125, 38, 111, 210, 49, 137, 125, 110, 161, 135, 78, 228, 208, 116, 75, 6] := by decide +kernel
set_option maxRecDepth 1000000 in
theorem kq : joinS [44, 214, 239, 220, 104, 18, 185, 8, 144, 241, 38, 94, 219, 115, 150, 147] [117, 62, 159, 97, 205, 97, 135, 182, 225, 207, 20, 123, 125, 41, 227, 30] = [97, 141, 1, 38, 168, 69, 133, 0, 126, 115, 228, 13, 223, 142, 36, 45] := by decide +kernel
end Go.Proofs.Ythbdmfbjkkmplaa.Sha
