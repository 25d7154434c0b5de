/- X to X: texts of this claim, one behind the other; what each shows stands at its head. -/
import Derived.Test.YtbmddnokokoofaaRows
import Derived.Test.YtbmddnokokoofaaAm4
/- The seat's tables for the abstract machine, and what walks ask of the program. No conditions. -/
namespace Go.Proofs.Ytbmddnokokoofaa
open Go.AM

def keepT : List (List (List Nat)) := [[], [], [[]], [[], [1, 2], [1, 2, 5], [1, 2, 5, 6, 8], [1, 2, 5, 6, 8, 11], [1, 2, 5, 6, 8, 11, 14], [0]], [[0, 1, 2], [0, 1, 2, 12], [6], [0, 1, 2, 20], [6], [0, 1, 2, 7, 8], [7, 8, 9, 10], [6]], [[0, 1, 2, 3], [0, 1, 2, 3, 17], [8], [0, 1, 2, 3, 38], [8], [0, 1, 2, 3, 9], [0, 1, 2, 3, 9, 10, 11, 12], [0, 9, 10, 11, 12, 13, 14, 15], [8]], [[0, 1, 2, 3], [0, 1, 2, 3, 25], [8], [0, 1, 2, 3, 28], [8], [0, 1, 2, 3, 9, 10], [0, 1, 2, 3, 9, 36], [8], [0, 1, 2, 3, 9, 11], [0, 1, 2, 3, 9, 11, 12], [0, 1, 2, 3, 9, 11, 12, 13], [0, 1, 2, 3, 9, 11, 12, 13, 43], [0, 1, 2, 3, 9, 11, 12, 13], [0, 1, 2, 3, 9, 11, 12, 13], [0, 1, 2, 3, 9, 11, 12, 13], [0, 1, 2, 3, 9, 12, 14], [0, 1, 2, 3, 9, 12, 14, 63], [0, 1, 2, 3, 9, 12, 14], [0, 1, 2, 3, 9, 12, 14, 15, 16, 17], [0, 1, 2, 9, 12, 14, 15, 16, 17, 20], [0, 2, 9, 12, 14, 110], [8], [0, 2, 9, 12, 14, 113], [8], [23], [8]], [[0, 1], [0, 1, 18], [4], [0, 1, 31], [4], [0, 1, 5], [0, 1, 5, 6], [0, 1, 5, 6, 35], [0, 1, 5, 6], [0, 1, 5, 6], [0, 1, 5, 7, 8], [0, 1, 5, 7, 8, 9, 10], [0, 1, 5, 7, 8, 9, 58], [4], [0, 1, 5, 7, 9, 60], [4], [0, 1, 5, 9, 11, 13], [0, 11, 13, 16], [4]], [[0, 1, 2], [0, 1, 2, 19], [6, 7], [0, 1, 2, 20, 21, 22], [0, 1, 2, 20, 21, 22, 23], [0, 1, 2, 9, 20, 21, 22], [0, 1, 2, 20, 21, 22, 41], [6, 7], [0, 1, 2, 20, 21, 22], [1, 2, 10], [1, 2, 10, 47], [6, 7], [1, 2, 10, 11], [1, 2, 10, 11, 12, 13], [2, 10, 11, 12, 13, 54, 55, 56], [2, 10, 11, 12, 13, 54, 55, 56, 57], [2, 10, 11, 12, 13, 14, 15, 54, 55, 56], [2, 10, 11, 12, 13, 14, 15, 16, 54, 55, 56], [2, 10, 11, 12, 13, 14, 15, 16, 54, 55, 56, 63], [2, 10, 11, 12, 13, 14, 15, 16, 54, 55, 56], [2, 10, 11, 12, 13, 14, 15, 54, 55, 56], [2, 10, 11, 12, 13, 54, 55, 56], [2, 10, 11, 12, 13, 14, 15, 54, 55, 56, 80], [2, 10, 11, 12, 13, 14, 15, 54, 55, 56, 83], [2, 10, 11, 12, 13, 54, 55, 56], [2, 10, 11, 12, 13, 54, 55, 56], [2, 10, 12, 13], [10, 12, 13, 102], [10, 13], [10, 13], [6, 7]], [[1, 2, 4, 7, 8], [1, 2, 4, 7, 8, 30], [8, 9, 10], [1, 2, 4, 7, 8, 32], [35], [8, 9, 10], [8, 9, 10], [1, 2, 4, 8, 11], [1, 2, 4, 8, 11, 12], [1, 2, 4, 8, 11, 12, 43], [8, 9, 10], [1, 2, 4, 8, 11, 12, 13], [1, 2, 4, 8, 11, 12, 13, 46, 47], [1, 2, 4, 8, 11, 12, 13, 46, 47, 48], [1, 2, 4, 8, 11, 12, 13, 14, 46, 47], [1, 2, 4, 8, 11, 12, 13, 46, 47, 62], [8, 9, 10], [1, 2, 4, 8, 11, 12, 13, 46, 47], [1, 2, 8, 11, 13, 15], [1, 2, 8, 11, 13, 15, 69], [8, 9, 10], [1, 2, 8, 11, 13, 15, 16], [1, 2, 8, 11, 13, 15, 16], [1, 2, 8, 11, 13, 15, 16, 75], [8, 9, 10], [1, 2, 8, 11, 13, 15, 16, 75, 76], [1, 2, 8, 11, 13, 15, 16, 81], [8, 9, 10], [2, 8, 11, 13, 15, 16], [2, 8, 11, 13, 15, 16, 85, 86, 87], [2, 8, 11, 13, 15, 16, 85, 86, 87, 88], [2, 8, 11, 13, 15, 16, 18, 85, 86, 87], [2, 8, 11, 13, 15, 16, 85, 86, 87, 94], [8, 9, 10], [2, 8, 11, 13, 15, 16, 85, 86, 87], [1, 8, 11, 13, 15, 16, 96], [1, 2, 8, 10, 11, 13, 15, 16], [1, 2, 8, 10, 11, 13, 15, 16, 105], [8, 9, 10], [2, 8, 11, 13, 15, 16], [8, 11, 13, 15, 16, 111, 112, 113], [8, 11, 13, 15, 16, 111, 112, 113, 114], [8, 11, 13, 15, 16, 19, 20, 111, 112, 113], [8, 11, 13, 15, 16, 19, 20, 21, 111, 112, 113], [8, 11, 13, 15, 16, 20, 21, 111, 112, 113, 131], [8, 11, 13, 15, 16, 20, 21, 111, 112, 113, 134], [8, 9, 10], [8, 11, 13, 15, 16, 21, 22, 23, 24, 111, 112, 113], [8, 11, 13, 15, 16, 21, 22, 23, 24, 111, 112, 113, 143], [8, 9, 10], [8, 11, 13, 15, 16, 21, 111, 112, 113], [8, 11, 13, 15, 16, 111, 112, 113], [8, 11, 13, 15, 16, 111, 112, 113], [8, 16, 157], [8, 9, 10], [8, 9, 10]], [[], [1], [1, 2, 3], [2, 3, 4, 5, 6], [0]], [[0, 1], [4]], [[0], [0, 3], [0, 3, 4], [0, 3, 4, 12], [0, 3, 4], [0, 3, 4], [2]], [[0], [2]], [[0, 1, 2], [0, 1, 2, 17], [6, 7], [0, 1, 2, 8], [0, 1, 2, 8, 9, 10], [0, 1, 2, 8, 9, 10, 11], [0, 1, 2, 8, 9, 10, 11, 26], [0, 1, 2, 8, 9, 10, 11], [0, 1, 2, 8, 9, 10, 11, 12], [0, 1, 2, 8, 9, 10, 11, 12, 48], [6, 7], [0, 1, 2, 8, 9, 10, 11, 12, 13], [0, 1, 2, 8, 9, 10, 11, 12, 13, 51], [0, 1, 2, 8, 9, 10, 11, 12, 13], [0, 1, 2, 8, 9, 10, 11, 12], [0, 1, 2, 8, 9, 10, 11, 12, 62], [0, 1, 2, 8, 9, 10, 11], [0, 1, 2, 8, 9, 10, 11, 74], [0, 1, 2, 8, 9, 10, 11], [1, 2, 8, 9, 10, 14], [2, 8, 9, 10, 14, 94], [6, 7], [2, 9, 10, 14], [9, 10, 14, 99], [6, 7], [6, 7]], [[0, 1, 2, 3], [0, 1, 2, 3, 25], [8, 9, 10], [1, 2, 3, 11], [1, 2, 3, 11, 30], [8, 9, 10], [1, 2, 3, 11, 12], [1, 2, 3, 11, 12], [1, 2, 3, 11, 12, 13], [1, 2, 3, 11, 12, 13, 51], [1, 2, 3, 11, 12, 13], [1, 2, 3, 11, 12, 13], [1, 2, 3, 11, 12, 14], [1, 2, 3, 11, 12, 14], [1, 3, 11, 12, 14, 15], [1, 3, 11, 12, 14, 15, 16], [1, 3, 11, 12, 14, 15, 16, 17], [1, 3, 11, 12, 14, 15, 16, 17, 94], [1, 3, 11, 12, 14, 15, 16, 17], [1, 3, 11, 12, 14, 15, 16, 17, 18], [1, 3, 11, 12, 14, 15, 16, 17, 18, 19], [1, 3, 11, 12, 14, 15, 16, 17, 18, 19], [1, 3, 11, 12, 14, 15, 16, 17, 18, 146], [1, 3, 11, 12, 14, 15, 16, 17, 18], [1, 3, 11, 12, 14, 15, 16, 17], [11, 14, 16, 160], [8, 9, 10], [8, 9, 10]], [[0, 1], [0, 1, 10], [4], [0, 1, 5], [0, 1, 5, 14], [0, 1, 5], [0, 1, 5, 25], [4], [4]], [[0, 1], [0, 1, 18], [4], [5], [5, 6], [5, 6, 33], [5, 6], [5, 6, 40], [4], [4]], [[0, 1], [0, 1], [0, 1, 9], [0], [4]], [[2, 3], [2, 3, 5], [2, 3, 5, 11], [4], [2, 3, 5, 14], [4], [2, 3, 5, 6], [2, 3, 5, 6, 7], [2, 3, 5, 6, 7, 24], [2, 3, 5, 6, 7, 24, 25], [6], [2, 3, 5, 6, 7, 24, 27], [6], [2, 3, 5, 6, 7, 24, 60], [2, 3, 5, 6, 7, 24, 60], [2, 3, 5, 6, 7, 24, 60], [6], [2, 3, 5, 6, 24, 84], [2, 3, 5, 6, 24, 84], [6], [2, 5, 6, 103], [6], [121], [4], [4]], [[0], [0, 4], [2], [2]], [[0, 4, 5], [0, 4, 5, 8], [0, 4, 5, 24], [6, 7], [4, 5, 9], [4, 5, 9, 28], [4, 5, 9, 28, 29], [6, 7], [4, 5, 9, 28, 39], [4, 5, 9, 28, 39], [4, 5, 9, 28, 39], [6, 7], [4, 5, 9, 28, 50], [4, 5, 9, 28, 50], [6, 7], [4, 9, 59], [6, 7], [6, 7]], [[0, 1], [3]], [[0, 1], [3]], [[0], [2]], [[0, 1, 4], [0, 4, 7, 8], [0, 4, 7, 8, 9], [0, 4, 6, 7, 8], [0, 4, 6, 7, 8, 16], [4, 5], [0, 4, 6, 7, 8, 23], [4, 5], [0, 4, 6, 7, 8, 29], [4, 5], [0, 4, 6, 7, 8, 45], [4, 5], [0, 4, 7, 8], [0, 4, 7, 8], [4, 5]], [[0, 3, 4], [0, 3, 4, 7], [0, 3, 4, 7, 19], [0, 3, 4, 7, 19, 20], [4, 5, 6], [0, 3, 4, 7, 19, 23], [4, 5, 6], [0, 3, 4, 7, 19, 26], [0, 3, 4, 7, 19, 26], [4, 7, 8, 9, 10], [4, 7, 8, 9, 10, 38], [4, 5, 6], [4, 5, 6], [0, 3, 4, 7, 45], [4, 7, 11, 12, 13], [4, 7, 11, 12, 13, 53], [4, 5, 6], [4, 7, 11, 12, 58], [4, 5, 6], [4, 5, 6], [0, 4, 7, 14], [4, 6, 7, 14, 15], [4, 6, 7, 14, 15, 77], [4, 5, 6], [4, 7, 14, 15, 81], [4, 7, 14, 15, 16], [4, 5, 6], [4, 5, 6]], [[2, 3], [2, 3, 5], [2, 3, 6], [2, 3, 6, 7], [2, 3, 6, 7, 81], [2, 3, 6, 7], [2, 3, 6, 7, 82], [4], [2, 3, 6, 7, 84], [2, 3, 6, 7, 84, 85], [6], [2, 3, 6, 7, 84, 105], [2, 3, 6, 7, 84, 105], [2, 3, 6, 7, 84, 105], [6], [2, 3, 6, 84, 118], [2, 3, 6, 84, 118], [6], [2, 6, 127], [6], [133], [4], [4]], [[0, 4, 5], [0, 4, 5, 8], [0, 4, 5, 25], [6, 7], [0, 4, 5, 9], [0, 4, 5, 9, 30], [0, 4, 5, 9, 30, 31], [0, 9, 10], [0, 9, 10, 37], [0, 9, 10], [6, 7], [0, 4, 5, 9, 30, 49], [0, 4, 5, 9, 30, 49], [0, 4, 5, 9, 30, 49], [6, 7], [0, 4, 5, 30, 58], [0, 4, 5, 30, 58], [6, 7], [0, 4, 67], [6, 7], [6, 7]], [[0], [0], [2]], [[0, 1], [0, 1, 19], [0, 1], [0, 1, 27], [4], [0, 1, 5], [5], [4]], [[0, 11], []], [[0, 1, 2], [0, 1, 2, 7], [0, 1, 2, 7, 12], [0, 1, 2, 7], [0, 1, 2, 7, 37], [6], [6]], [[0], [2]], [[0, 1, 2, 3], [0, 1, 2, 3, 9], [0, 1, 2, 3, 9, 10], [0, 1, 2, 3, 9, 10, 22], [0, 1, 2, 3, 9, 10], [0, 1, 2, 3, 9, 10, 11], [0, 1, 2, 3, 9, 10, 11, 26], [0, 1, 2, 3, 9, 10, 11], [0, 1, 2, 3, 9, 10, 11], [0, 1, 2, 3, 9, 10, 11, 12], [0, 1, 2, 3, 9, 10, 11, 12], [0, 1, 2, 3, 9, 10, 11], [0, 1, 2, 3, 9, 10, 11, 51], [0, 1, 2, 3, 9, 10, 11], [0, 1, 2, 3, 9, 10, 11], [0, 1, 2, 3, 9, 10, 11], [0, 1, 2, 3, 9, 10], [8]], [[0, 3, 4], [0, 3, 4, 12], [4], [0, 4, 5, 6, 7], [0, 4, 5, 6], [4, 5], [4]], [[1], [1, 4], [1, 4, 5], [1, 4, 5], [1, 4, 5], [1, 4, 5], [1, 4, 5], [1, 4, 5], [13], [2], [2], [1, 4, 14], [2], [1, 4, 16], [2], [1, 4, 18], [1, 4, 18], [1, 4, 18], [2], [1, 4, 22], [2], [1, 24], [2], [28], [2], [2]], [[0], [3], [3, 4], [2], [3, 6], [3, 6], [2], [3, 9], [3, 9], [3, 9], [2], [3, 13], [13], [2], [2]], [[1, 2], [1, 2, 7], [4], [1, 2, 9], [4], [1, 2, 52], [4], [4]], [[0, 1, 2], [0, 1, 8, 9], [0, 1, 8, 9, 10], [0, 1, 7, 8, 9], [0, 1, 8, 9], [0, 1, 8, 9], [6]], [[0, 2, 4], [0, 4, 10], [0, 4], [0, 4, 14], [6], [0, 4, 21], [0, 4], [0, 4, 7], [0, 4, 7, 29], [0, 4, 7], [0, 4], [0, 4], [0, 4, 8], [0, 4, 8, 50], [6], [0, 4, 8, 57], [0, 4, 8], [0, 4, 8, 67], [0, 4, 8], [0, 4, 8], [0, 4, 88], [0, 4], [0, 4, 103], [0], [6]], [[0, 1], [4]], [[0], [0]], [[0, 1, 4], [0, 1, 4, 7], [0, 1, 4, 7, 17], [4, 5, 6], [0, 1, 4, 7, 8], [0, 1, 4, 7, 8, 9], [0, 1, 4, 7, 8, 9, 25], [0, 1, 4, 7, 8, 9], [0, 1, 4, 7, 8, 9, 10], [0, 1, 4, 7, 8, 10, 27, 28, 29], [0, 1, 4, 7, 8, 10, 27, 28, 29, 30], [0, 1, 4, 7, 8, 10, 12, 27, 28, 29], [0, 1, 4, 7, 8, 10, 27, 28, 29], [0, 1, 4, 7, 8, 10, 27, 28, 29], [0, 1, 4, 7, 8, 41], [4, 5, 6], [0, 1, 4, 7, 8, 47], [4, 5, 6], [0, 1, 4, 7, 8, 13], [1, 4, 7, 8, 13], [1, 4, 7, 8, 13, 14], [1, 4, 7, 8, 13, 14, 58], [1, 4, 7, 8, 13, 14, 62], [4, 5, 6], [1, 4, 7, 8], [1, 4, 7, 8], [4, 7, 8, 97], [4, 5, 6], [4, 5, 6]], [[0], [0, 3, 4, 5], [0, 3, 4, 5, 13], [2, 3, 4], [0, 3, 5, 21], [2, 3, 4], [2, 3, 4]], [[0, 1], [0, 1, 13], [4, 5], [0, 1, 17], [4, 5], [0, 1, 6], [0, 6, 18, 19], [0, 6, 18, 19, 20], [0, 6, 7, 18, 19], [0, 6, 18, 19], [0, 6, 18, 19], [4, 5]], [[1], [1, 6], [2], [1, 8], [1, 8, 9], [1, 8, 9], [1, 8, 9], [1, 8, 9], [1, 8, 9], [1, 8, 9], [17], [2], [2], [8, 18], [2], [8, 20], [2], [8, 22], [8, 22], [8, 22], [2], [8, 26], [2], [28], [2], [2]], [[0], [3], [3, 4], [2], [3, 6], [3, 6], [2], [3, 9], [3, 9], [9], [2], [2]], [[1, 2], [1, 2, 7], [4], [1, 2, 9], [4], [4]], [[0, 1, 2], [7], [6]], [[0, 2, 4], [0, 2, 4], [0, 4, 10], [0, 4, 8], [0, 4, 8, 12], [0, 4, 8], [0, 4, 7], [0, 4, 7, 36], [0, 4, 7], [0, 4, 7], [0, 4, 7, 51], [0, 4, 7], [0, 4, 7, 66], [0, 4, 7], [0, 4, 7, 69], [0, 7], [6]], [[0, 1], [4]], [[0, 3, 4], [0, 3, 4, 7], [0, 3, 4, 7, 15], [4, 5, 6], [0, 3, 4, 7, 8], [0, 3, 4, 7, 8, 9], [0, 3, 4, 7, 8, 9, 10], [0, 3, 4, 8, 9, 10, 25], [0, 3, 4, 8, 9, 10, 25, 26], [0, 4, 8, 9, 10, 11], [0, 4, 8, 9], [0, 3, 4, 8, 9, 10, 25, 44], [0, 3, 4, 8, 9, 10, 25, 44], [0, 3, 4, 8, 9, 10, 25, 44], [0, 4, 8, 9], [0, 3, 4, 8, 9, 25, 52], [0, 3, 4, 8, 9, 25, 52], [0, 4, 8, 9], [0, 4, 8, 9, 60], [0, 4, 8, 9], [0, 4, 8, 9], [0, 4, 8, 9, 75], [4, 5, 6], [4, 5, 6]], [[1], [2]], [[0, 1, 2], [6]], [[0, 1], [0, 1, 5, 6], [1, 5, 6, 7], [1, 5, 6, 7, 16], [1, 6, 7], [7], [4]], [[0, 1, 2], [6], [5]], [[0], [0, 8], [2, 3, 4], [0], [0, 11], [2, 3, 4], [0, 11, 16], [0, 5], [0, 11, 18], [0, 5], [0, 11, 20], [0, 5], [0, 11, 22], [0, 22], [2, 3, 4], [2, 4, 5], [2, 4, 5, 33], [2, 3, 4], [2, 3, 4]], [[0], [2]], [[1], [2]], [[1], [2]], [[0, 1, 2], [0, 1, 2, 27], [6, 7], [1, 2, 8], [1, 2, 8, 9], [1, 2, 8, 9, 33], [1, 2, 8, 9], [1, 2, 8, 9], [6, 7]], [[0, 1], [0, 1, 5], [1, 5, 6], [1, 5, 6, 14], [4], [1, 5, 6, 7], [1, 5, 6, 7, 21], [1, 5, 6, 7], [6], [4]], [[0, 1], [5], [4]], [[0, 1, 4], [0, 1, 4, 5], [0, 1, 4, 5, 6], [0, 1, 4, 5, 6, 13], [0, 1, 4, 5, 6], [0, 1, 4, 5, 6, 34], [0, 1, 4, 5, 6, 7], [0, 1, 4, 5, 6, 7], [0, 1, 4, 5, 6, 7], [0, 1, 4, 6, 7], [0, 1, 4, 6], [0, 1, 4, 5, 6], [0, 1, 4, 5, 6, 77], [0, 1, 4, 5, 6], [0, 1, 4, 5, 6], [0, 1, 4, 5, 6], [0, 1, 4, 5, 6, 98], [0, 1, 4, 6], [4, 6], [4]], [[0], [0, 10], [2], [0, 3, 4, 5], [0, 3, 4], [3], [2]], [[0], [0, 4], [2, 3], [0, 7], [2, 3], [10], [2, 3], [2, 3]], [[0, 1, 2], [0, 1, 2, 26], [6, 7], [1, 2, 8], [1, 8, 29, 30], [1, 8, 29, 30, 31], [1, 8, 9, 29, 30], [1, 8, 29, 30], [1, 8, 29, 30], [6, 7]], [[0], [0, 3], [0, 3, 9], [2], [0, 14], [0, 14, 15], [2], [0, 17], [2], [0, 3], [0, 3, 21], [2], [2]], [[0], [0, 4], [2], [0, 6], [2], [8], [2], [2]], [[0, 1], [0, 1, 13], [4, 5], [0, 1, 17], [4, 5], [0, 1, 6], [0, 1, 6, 7], [0, 1, 6, 7, 20], [0, 1, 6, 7], [0, 1, 6, 7], [4, 5]], [[0, 2, 4, 6], [0, 2, 4, 6], [0, 2, 4, 6], [0, 2, 4, 6], [0, 4, 6, 19], [4, 6], [6]], [[0], [0, 5, 6, 7], [0, 5, 6, 7, 15], [2, 3, 4], [0, 5, 6, 23], [2, 3, 4], [2, 3, 4]], [[0], [0, 10], [2, 3, 4], [0, 14], [2, 3, 4], [0, 28], [2, 3, 4], [0, 5], [0, 5, 37], [0, 5], [5, 6, 7], [5, 6, 7, 46], [2, 3, 4], [2, 3, 4]], [], [], [], [], [], [], [], [], [], [], [], [], [], [], [], []]


noncomputable def X : AM.Ctx := { P := Try.prog, G := fun _ => .none, rw := fun f i => (f == 17 && i == 0) || (f == 39 && i == 0) || (f == 40 && i == 0), keep := fun f i => ((keepT[f]?).getD [])[i]?, norm := fun _ _ => false, dr := fun _ _ => true, dy := fun f id => [(9, 43), (9, 50), (15, 19), (15, 26), (21, 7), (21, 11), (35, 3), (40, 10), (40, 19), (43, 24), (50, 6), (50, 9), (52, 22), (52, 23)].contains (f, id) }

theorem own : ownKnob Try.prog.godebug = .none := by kernel_rfl
theorem full : ∀ t e, t < Try.prog.types.size → Try.prog.underlying t = some (.slice e) → 0 < Try.prog.cellsOf e := slices_full_of Try.prog (by kernel_rfl)
theorem ctxOk : AM.CtxOk X := AM.ctxOk_of (by kernel_rfl) (by kernel_rfl)
@[simp] theorem X_dr (f i : Nat) : X.dr f i = true := rfl
@[simp] theorem X_norm (f i : Nat) : X.norm f i = false := rfl
@[simp] theorem X_rw (f i : Nat) : X.rw f i = ((f == 17 && i == 0) || (f == 39 && i == 0) || (f == 40 && i == 0)) := rfl
@[simp] theorem nt3 : ntOf X 3 = 80 := by kernel_rfl
@[simp] theorem bod3 : bodied X 3 = true := by kernel_rfl
@[simp] theorem par3 : paramsOf X 3 = [] := by kernel_rfl
@[simp] theorem nt4 : ntOf X 4 = 44 := by kernel_rfl
@[simp] theorem bod4 : bodied X 4 = true := by kernel_rfl
@[simp] theorem par4 : paramsOf X 4 = [22, 35, 4] := by kernel_rfl
@[simp] theorem nt5 : ntOf X 5 = 77 := by kernel_rfl
@[simp] theorem bod5 : bodied X 5 = true := by kernel_rfl
@[simp] theorem par5 : paramsOf X 5 = [22, 3, 43, 44] := by kernel_rfl
@[simp] theorem nt6 : ntOf X 6 = 134 := by kernel_rfl
@[simp] theorem bod6 : bodied X 6 = true := by kernel_rfl
@[simp] theorem par6 : paramsOf X 6 = [35, 4, 3, 5] := by kernel_rfl
@[simp] theorem nt7 : ntOf X 7 = 99 := by kernel_rfl
@[simp] theorem bod7 : bodied X 7 = true := by kernel_rfl
@[simp] theorem par7 : paramsOf X 7 = [35, 43] := by kernel_rfl
@[simp] theorem nt8 : ntOf X 8 = 114 := by kernel_rfl
@[simp] theorem bod8 : bodied X 8 = true := by kernel_rfl
@[simp] theorem par8 : paramsOf X 8 = [22, 35, 4] := by kernel_rfl
@[simp] theorem nt9 : ntOf X 9 = 161 := by kernel_rfl
@[simp] theorem bod9 : bodied X 9 = true := by kernel_rfl
@[simp] theorem par9 : paramsOf X 9 = [22, 3, 43, 44] := by kernel_rfl
@[simp] theorem nt10 : ntOf X 10 = 52 := by kernel_rfl
@[simp] theorem bod10 : bodied X 10 = true := by kernel_rfl
@[simp] theorem par10 : paramsOf X 10 = [] := by kernel_rfl
@[simp] theorem nt11 : ntOf X 11 = 10 := by kernel_rfl
@[simp] theorem bod11 : bodied X 11 = true := by kernel_rfl
@[simp] theorem par11 : paramsOf X 11 = [22, 22] := by kernel_rfl
@[simp] theorem nt12 : ntOf X 12 = 31 := by kernel_rfl
@[simp] theorem bod12 : bodied X 12 = true := by kernel_rfl
@[simp] theorem par12 : paramsOf X 12 = [35] := by kernel_rfl
@[simp] theorem nt13 : ntOf X 13 = 14 := by kernel_rfl
@[simp] theorem bod13 : bodied X 13 = true := by kernel_rfl
@[simp] theorem par13 : paramsOf X 13 = [22] := by kernel_rfl
@[simp] theorem nt14 : ntOf X 14 = 112 := by kernel_rfl
@[simp] theorem bod14 : bodied X 14 = true := by kernel_rfl
@[simp] theorem par14 : paramsOf X 14 = [22, 35, 4] := by kernel_rfl
@[simp] theorem nt15 : ntOf X 15 = 168 := by kernel_rfl
@[simp] theorem bod15 : bodied X 15 = true := by kernel_rfl
@[simp] theorem par15 : paramsOf X 15 = [22, 3, 43, 44] := by kernel_rfl
@[simp] theorem nt16 : ntOf X 16 = 26 := by kernel_rfl
@[simp] theorem bod16 : bodied X 16 = true := by kernel_rfl
@[simp] theorem par16 : paramsOf X 16 = [35, 35] := by kernel_rfl
@[simp] theorem nt17 : ntOf X 17 = 41 := by kernel_rfl
@[simp] theorem bod17 : bodied X 17 = true := by kernel_rfl
@[simp] theorem par17 : paramsOf X 17 = [22, 22] := by kernel_rfl
@[simp] theorem nt18 : ntOf X 18 = 14 := by kernel_rfl
@[simp] theorem bod18 : bodied X 18 = true := by kernel_rfl
@[simp] theorem par18 : paramsOf X 18 = [3, 3] := by kernel_rfl
@[simp] theorem nt19 : ntOf X 19 = 122 := by kernel_rfl
@[simp] theorem bod19 : bodied X 19 = true := by kernel_rfl
@[simp] theorem par19 : paramsOf X 19 = [32, 27] := by kernel_rfl
@[simp] theorem nt20 : ntOf X 20 = 8 := by kernel_rfl
@[simp] theorem bod20 : bodied X 20 = true := by kernel_rfl
@[simp] theorem par20 : paramsOf X 20 = [22] := by kernel_rfl
@[simp] theorem nt21 : ntOf X 21 = 66 := by kernel_rfl
@[simp] theorem bod21 : bodied X 21 = true := by kernel_rfl
@[simp] theorem par21 : paramsOf X 21 = [22, 32, 27] := by kernel_rfl
@[simp] theorem nt22 : ntOf X 22 = 14 := by kernel_rfl
@[simp] theorem bod22 : bodied X 22 = true := by kernel_rfl
@[simp] theorem par22 : paramsOf X 22 = [3] := by kernel_rfl
@[simp] theorem nt23 : ntOf X 23 = 14 := by kernel_rfl
@[simp] theorem bod23 : bodied X 23 = true := by kernel_rfl
@[simp] theorem par23 : paramsOf X 23 = [3] := by kernel_rfl
@[simp] theorem nt24 : ntOf X 24 = 7 := by kernel_rfl
@[simp] theorem bod24 : bodied X 24 = true := by kernel_rfl
@[simp] theorem par24 : paramsOf X 24 = [5] := by kernel_rfl
@[simp] theorem nt25 : ntOf X 25 = 64 := by kernel_rfl
@[simp] theorem bod25 : bodied X 25 = true := by kernel_rfl
@[simp] theorem par25 : paramsOf X 25 = [22, 3] := by kernel_rfl
@[simp] theorem nt26 : ntOf X 26 = 98 := by kernel_rfl
@[simp] theorem bod26 : bodied X 26 = true := by kernel_rfl
@[simp] theorem par26 : paramsOf X 26 = [22, 27] := by kernel_rfl
@[simp] theorem nt27 : ntOf X 27 = 134 := by kernel_rfl
@[simp] theorem bod27 : bodied X 27 = true := by kernel_rfl
@[simp] theorem par27 : paramsOf X 27 = [32, 27] := by kernel_rfl
@[simp] theorem nt28 : ntOf X 28 = 76 := by kernel_rfl
@[simp] theorem bod28 : bodied X 28 = true := by kernel_rfl
@[simp] theorem par28 : paramsOf X 28 = [22, 32, 27] := by kernel_rfl
@[simp] theorem nt29 : ntOf X 29 = 15 := by kernel_rfl
@[simp] theorem bod29 : bodied X 29 = true := by kernel_rfl
@[simp] theorem par29 : paramsOf X 29 = [59] := by kernel_rfl
@[simp] theorem nt30 : ntOf X 30 = 48 := by kernel_rfl
@[simp] theorem bod30 : bodied X 30 = true := by kernel_rfl
@[simp] theorem par30 : paramsOf X 30 = [59, 3] := by kernel_rfl
@[simp] theorem nt31 : ntOf X 31 = 15 := by kernel_rfl
@[simp] theorem bod31 : bodied X 31 = true := by kernel_rfl
@[simp] theorem par31 : paramsOf X 31 = [59, 4] := by kernel_rfl
@[simp] theorem nt32 : ntOf X 32 = 38 := by kernel_rfl
@[simp] theorem bod32 : bodied X 32 = true := by kernel_rfl
@[simp] theorem par32 : paramsOf X 32 = [22, 3, 3] := by kernel_rfl
@[simp] theorem nt33 : ntOf X 33 = 7 := by kernel_rfl
@[simp] theorem bod33 : bodied X 33 = true := by kernel_rfl
@[simp] theorem par33 : paramsOf X 33 = [59] := by kernel_rfl
@[simp] theorem nt34 : ntOf X 34 = 68 := by kernel_rfl
@[simp] theorem bod34 : bodied X 34 = true := by kernel_rfl
@[simp] theorem par34 : paramsOf X 34 = [59, 3, 4, 43] := by kernel_rfl
@[simp] theorem nt35 : ntOf X 35 = 38 := by kernel_rfl
@[simp] theorem bod35 : bodied X 35 = true := by kernel_rfl
@[simp] theorem par35 : paramsOf X 35 = [59, 27] := by kernel_rfl
@[simp] theorem nt36 : ntOf X 36 = 29 := by kernel_rfl
@[simp] theorem bod36 : bodied X 36 = true := by kernel_rfl
@[simp] theorem par36 : paramsOf X 36 = [27] := by kernel_rfl
@[simp] theorem nt37 : ntOf X 37 = 16 := by kernel_rfl
@[simp] theorem bod37 : bodied X 37 = true := by kernel_rfl
@[simp] theorem par37 : paramsOf X 37 = [5] := by kernel_rfl
@[simp] theorem nt38 : ntOf X 38 = 66 := by kernel_rfl
@[simp] theorem bod38 : bodied X 38 = true := by kernel_rfl
@[simp] theorem par38 : paramsOf X 38 = [30, 5] := by kernel_rfl
@[simp] theorem nt39 : ntOf X 39 = 22 := by kernel_rfl
@[simp] theorem bod39 : bodied X 39 = true := by kernel_rfl
@[simp] theorem par39 : paramsOf X 39 = [22, 28, 3] := by kernel_rfl
@[simp] theorem nt40 : ntOf X 40 = 110 := by kernel_rfl
@[simp] theorem bod40 : bodied X 40 = true := by kernel_rfl
@[simp] theorem par40 : paramsOf X 40 = [22, 30, 5] := by kernel_rfl
@[simp] theorem nt41 : ntOf X 41 = 12 := by kernel_rfl
@[simp] theorem bod41 : bodied X 41 = true := by kernel_rfl
@[simp] theorem par41 : paramsOf X 41 = [22, 9] := by kernel_rfl
@[simp] theorem nt42 : ntOf X 42 = 2 := by kernel_rfl
@[simp] theorem bod42 : bodied X 42 = true := by kernel_rfl
@[simp] theorem par42 : paramsOf X 42 = [] := by kernel_rfl
@[simp] theorem nt43 : ntOf X 43 = 102 := by kernel_rfl
@[simp] theorem bod43 : bodied X 43 = true := by kernel_rfl
@[simp] theorem par43 : paramsOf X 43 = [22, 5] := by kernel_rfl
@[simp] theorem nt44 : ntOf X 44 = 34 := by kernel_rfl
@[simp] theorem bod44 : bodied X 44 = true := by kernel_rfl
@[simp] theorem par44 : paramsOf X 44 = [22] := by kernel_rfl
@[simp] theorem nt45 : ntOf X 45 = 34 := by kernel_rfl
@[simp] theorem bod45 : bodied X 45 = true := by kernel_rfl
@[simp] theorem par45 : paramsOf X 45 = [22, 3] := by kernel_rfl
@[simp] theorem nt46 : ntOf X 46 = 30 := by kernel_rfl
@[simp] theorem bod46 : bodied X 46 = true := by kernel_rfl
@[simp] theorem par46 : paramsOf X 46 = [27] := by kernel_rfl
@[simp] theorem nt47 : ntOf X 47 = 13 := by kernel_rfl
@[simp] theorem bod47 : bodied X 47 = true := by kernel_rfl
@[simp] theorem par47 : paramsOf X 47 = [5] := by kernel_rfl
@[simp] theorem nt48 : ntOf X 48 = 83 := by kernel_rfl
@[simp] theorem bod48 : bodied X 48 = true := by kernel_rfl
@[simp] theorem par48 : paramsOf X 48 = [30, 5] := by kernel_rfl
@[simp] theorem nt49 : ntOf X 49 = 17 := by kernel_rfl
@[simp] theorem bod49 : bodied X 49 = true := by kernel_rfl
@[simp] theorem par49 : paramsOf X 49 = [22, 28, 3] := by kernel_rfl
@[simp] theorem nt50 : ntOf X 50 = 85 := by kernel_rfl
@[simp] theorem bod50 : bodied X 50 = true := by kernel_rfl
@[simp] theorem par50 : paramsOf X 50 = [22, 30, 5] := by kernel_rfl
@[simp] theorem nt51 : ntOf X 51 = 12 := by kernel_rfl
@[simp] theorem bod51 : bodied X 51 = true := by kernel_rfl
@[simp] theorem par51 : paramsOf X 51 = [22, 9] := by kernel_rfl
@[simp] theorem nt52 : ntOf X 52 = 90 := by kernel_rfl
@[simp] theorem bod52 : bodied X 52 = true := by kernel_rfl
@[simp] theorem par52 : paramsOf X 52 = [22, 27] := by kernel_rfl
@[simp] theorem nt53 : ntOf X 53 = 21 := by kernel_rfl
@[simp] theorem bod53 : bodied X 53 = true := by kernel_rfl
@[simp] theorem par53 : paramsOf X 53 = [30] := by kernel_rfl
@[simp] theorem nt54 : ntOf X 54 = 15 := by kernel_rfl
@[simp] theorem bod54 : bodied X 54 = true := by kernel_rfl
@[simp] theorem par54 : paramsOf X 54 = [3, 3, 3] := by kernel_rfl
@[simp] theorem nt55 : ntOf X 55 = 29 := by kernel_rfl
@[simp] theorem bod55 : bodied X 55 = true := by kernel_rfl
@[simp] theorem par55 : paramsOf X 55 = [22, 28] := by kernel_rfl
@[simp] theorem nt56 : ntOf X 56 = 18 := by kernel_rfl
@[simp] theorem bod56 : bodied X 56 = true := by kernel_rfl
@[simp] theorem par56 : paramsOf X 56 = [3, 3] := by kernel_rfl
@[simp] theorem nt57 : ntOf X 57 = 38 := by kernel_rfl
@[simp] theorem bod57 : bodied X 57 = true := by kernel_rfl
@[simp] theorem par57 : paramsOf X 57 = [22] := by kernel_rfl
@[simp] theorem nt58 : ntOf X 58 = 6 := by kernel_rfl
@[simp] theorem bod58 : bodied X 58 = true := by kernel_rfl
@[simp] theorem par58 : paramsOf X 58 = [5] := by kernel_rfl
@[simp] theorem nt59 : ntOf X 59 = 41 := by kernel_rfl
@[simp] theorem bod59 : bodied X 59 = true := by kernel_rfl
@[simp] theorem par59 : paramsOf X 59 = [30] := by kernel_rfl
@[simp] theorem nt60 : ntOf X 60 = 15 := by kernel_rfl
@[simp] theorem bod60 : bodied X 60 = true := by kernel_rfl
@[simp] theorem par60 : paramsOf X 60 = [30] := by kernel_rfl
@[simp] theorem nt61 : ntOf X 61 = 46 := by kernel_rfl
@[simp] theorem bod61 : bodied X 61 = true := by kernel_rfl
@[simp] theorem par61 : paramsOf X 61 = [22, 28, 3] := by kernel_rfl
@[simp] theorem nt62 : ntOf X 62 = 37 := by kernel_rfl
@[simp] theorem bod62 : bodied X 62 = true := by kernel_rfl
@[simp] theorem par62 : paramsOf X 62 = [22, 28] := by kernel_rfl
@[simp] theorem nt63 : ntOf X 63 = 16 := by kernel_rfl
@[simp] theorem bod63 : bodied X 63 = true := by kernel_rfl
@[simp] theorem par63 : paramsOf X 63 = [59, 3] := by kernel_rfl
@[simp] theorem nt64 : ntOf X 64 = 111 := by kernel_rfl
@[simp] theorem bod64 : bodied X 64 = true := by kernel_rfl
@[simp] theorem par64 : paramsOf X 64 = [59, 5] := by kernel_rfl
@[simp] theorem nt65 : ntOf X 65 = 34 := by kernel_rfl
@[simp] theorem bod65 : bodied X 65 = true := by kernel_rfl
@[simp] theorem par65 : paramsOf X 65 = [59] := by kernel_rfl
@[simp] theorem nt66 : ntOf X 66 = 13 := by kernel_rfl
@[simp] theorem bod66 : bodied X 66 = true := by kernel_rfl
@[simp] theorem par66 : paramsOf X 66 = [28] := by kernel_rfl
@[simp] theorem nt67 : ntOf X 67 = 43 := by kernel_rfl
@[simp] theorem bod67 : bodied X 67 = true := by kernel_rfl
@[simp] theorem par67 : paramsOf X 67 = [22, 28, 3] := by kernel_rfl
@[simp] theorem nt68 : ntOf X 68 = 27 := by kernel_rfl
@[simp] theorem bod68 : bodied X 68 = true := by kernel_rfl
@[simp] theorem par68 : paramsOf X 68 = [5] := by kernel_rfl
@[simp] theorem nt69 : ntOf X 69 = 9 := by kernel_rfl
@[simp] theorem bod69 : bodied X 69 = true := by kernel_rfl
@[simp] theorem par69 : paramsOf X 69 = [28] := by kernel_rfl
@[simp] theorem nt70 : ntOf X 70 = 35 := by kernel_rfl
@[simp] theorem bod70 : bodied X 70 = true := by kernel_rfl
@[simp] theorem par70 : paramsOf X 70 = [22, 3] := by kernel_rfl
@[simp] theorem nt71 : ntOf X 71 = 25 := by kernel_rfl
@[simp] theorem bod71 : bodied X 71 = true := by kernel_rfl
@[simp] theorem par71 : paramsOf X 71 = [59, 30, 4] := by kernel_rfl
@[simp] theorem nt72 : ntOf X 72 = 36 := by kernel_rfl
@[simp] theorem bod72 : bodied X 72 = true := by kernel_rfl
@[simp] theorem par72 : paramsOf X 72 = [22] := by kernel_rfl
@[simp] theorem nt73 : ntOf X 73 = 51 := by kernel_rfl
@[simp] theorem bod73 : bodied X 73 = true := by kernel_rfl
@[simp] theorem par73 : paramsOf X 73 = [22] := by kernel_rfl
@[simp] theorem keep3_0 : X.keep 3 0 = some [] := by kernel_rfl
@[simp] theorem keep3_1 : X.keep 3 1 = some [1, 2] := by kernel_rfl
@[simp] theorem keep3_2 : X.keep 3 2 = some [1, 2, 5] := by kernel_rfl
@[simp] theorem keep3_3 : X.keep 3 3 = some [1, 2, 5, 6, 8] := by kernel_rfl
@[simp] theorem keep3_4 : X.keep 3 4 = some [1, 2, 5, 6, 8, 11] := by kernel_rfl
@[simp] theorem keep3_5 : X.keep 3 5 = some [1, 2, 5, 6, 8, 11, 14] := by kernel_rfl
@[simp] theorem keep3_6 : X.keep 3 6 = some [0] := by kernel_rfl
@[simp] theorem keep4_0 : X.keep 4 0 = some [0, 1, 2] := by kernel_rfl
@[simp] theorem keep4_1 : X.keep 4 1 = some [0, 1, 2, 12] := by kernel_rfl
@[simp] theorem keep4_2 : X.keep 4 2 = some [6] := by kernel_rfl
@[simp] theorem keep4_3 : X.keep 4 3 = some [0, 1, 2, 20] := by kernel_rfl
@[simp] theorem keep4_4 : X.keep 4 4 = some [6] := by kernel_rfl
@[simp] theorem keep4_5 : X.keep 4 5 = some [0, 1, 2, 7, 8] := by kernel_rfl
@[simp] theorem keep4_6 : X.keep 4 6 = some [7, 8, 9, 10] := by kernel_rfl
@[simp] theorem keep4_7 : X.keep 4 7 = some [6] := by kernel_rfl
@[simp] theorem keep5_0 : X.keep 5 0 = some [0, 1, 2, 3] := by kernel_rfl
@[simp] theorem keep5_1 : X.keep 5 1 = some [0, 1, 2, 3, 17] := by kernel_rfl
@[simp] theorem keep5_2 : X.keep 5 2 = some [8] := by kernel_rfl
@[simp] theorem keep5_3 : X.keep 5 3 = some [0, 1, 2, 3, 38] := by kernel_rfl
@[simp] theorem keep5_4 : X.keep 5 4 = some [8] := by kernel_rfl
@[simp] theorem keep5_5 : X.keep 5 5 = some [0, 1, 2, 3, 9] := by kernel_rfl
@[simp] theorem keep5_6 : X.keep 5 6 = some [0, 1, 2, 3, 9, 10, 11, 12] := by kernel_rfl
@[simp] theorem keep5_7 : X.keep 5 7 = some [0, 9, 10, 11, 12, 13, 14, 15] := by kernel_rfl
@[simp] theorem keep5_8 : X.keep 5 8 = some [8] := by kernel_rfl
@[simp] theorem keep6_0 : X.keep 6 0 = some [0, 1, 2, 3] := by kernel_rfl
@[simp] theorem keep6_1 : X.keep 6 1 = some [0, 1, 2, 3, 25] := by kernel_rfl
@[simp] theorem keep6_2 : X.keep 6 2 = some [8] := by kernel_rfl
@[simp] theorem keep6_3 : X.keep 6 3 = some [0, 1, 2, 3, 28] := by kernel_rfl
@[simp] theorem keep6_4 : X.keep 6 4 = some [8] := by kernel_rfl
@[simp] theorem keep6_5 : X.keep 6 5 = some [0, 1, 2, 3, 9, 10] := by kernel_rfl
@[simp] theorem keep6_6 : X.keep 6 6 = some [0, 1, 2, 3, 9, 36] := by kernel_rfl
@[simp] theorem keep6_7 : X.keep 6 7 = some [8] := by kernel_rfl
@[simp] theorem keep6_8 : X.keep 6 8 = some [0, 1, 2, 3, 9, 11] := by kernel_rfl
@[simp] theorem keep6_9 : X.keep 6 9 = some [0, 1, 2, 3, 9, 11, 12] := by kernel_rfl
@[simp] theorem keep6_10 : X.keep 6 10 = some [0, 1, 2, 3, 9, 11, 12, 13] := by kernel_rfl
@[simp] theorem keep6_11 : X.keep 6 11 = some [0, 1, 2, 3, 9, 11, 12, 13, 43] := by kernel_rfl
@[simp] theorem keep6_12 : X.keep 6 12 = some [0, 1, 2, 3, 9, 11, 12, 13] := by kernel_rfl
@[simp] theorem keep6_13 : X.keep 6 13 = some [0, 1, 2, 3, 9, 11, 12, 13] := by kernel_rfl
@[simp] theorem keep6_14 : X.keep 6 14 = some [0, 1, 2, 3, 9, 11, 12, 13] := by kernel_rfl
@[simp] theorem keep6_15 : X.keep 6 15 = some [0, 1, 2, 3, 9, 12, 14] := by kernel_rfl
@[simp] theorem keep6_16 : X.keep 6 16 = some [0, 1, 2, 3, 9, 12, 14, 63] := by kernel_rfl
@[simp] theorem keep6_17 : X.keep 6 17 = some [0, 1, 2, 3, 9, 12, 14] := by kernel_rfl
@[simp] theorem keep6_18 : X.keep 6 18 = some [0, 1, 2, 3, 9, 12, 14, 15, 16, 17] := by kernel_rfl
@[simp] theorem keep6_19 : X.keep 6 19 = some [0, 1, 2, 9, 12, 14, 15, 16, 17, 20] := by kernel_rfl
@[simp] theorem keep6_20 : X.keep 6 20 = some [0, 2, 9, 12, 14, 110] := by kernel_rfl
@[simp] theorem keep6_21 : X.keep 6 21 = some [8] := by kernel_rfl
@[simp] theorem keep6_22 : X.keep 6 22 = some [0, 2, 9, 12, 14, 113] := by kernel_rfl
@[simp] theorem keep6_23 : X.keep 6 23 = some [8] := by kernel_rfl
@[simp] theorem keep6_24 : X.keep 6 24 = some [23] := by kernel_rfl
@[simp] theorem keep6_25 : X.keep 6 25 = some [8] := by kernel_rfl
@[simp] theorem keep7_0 : X.keep 7 0 = some [0, 1] := by kernel_rfl
@[simp] theorem keep7_1 : X.keep 7 1 = some [0, 1, 18] := by kernel_rfl
@[simp] theorem keep7_2 : X.keep 7 2 = some [4] := by kernel_rfl
@[simp] theorem keep7_3 : X.keep 7 3 = some [0, 1, 31] := by kernel_rfl
@[simp] theorem keep7_4 : X.keep 7 4 = some [4] := by kernel_rfl
@[simp] theorem keep7_5 : X.keep 7 5 = some [0, 1, 5] := by kernel_rfl
@[simp] theorem keep7_6 : X.keep 7 6 = some [0, 1, 5, 6] := by kernel_rfl
@[simp] theorem keep7_7 : X.keep 7 7 = some [0, 1, 5, 6, 35] := by kernel_rfl
@[simp] theorem keep7_8 : X.keep 7 8 = some [0, 1, 5, 6] := by kernel_rfl
@[simp] theorem keep7_9 : X.keep 7 9 = some [0, 1, 5, 6] := by kernel_rfl
@[simp] theorem keep7_10 : X.keep 7 10 = some [0, 1, 5, 7, 8] := by kernel_rfl
@[simp] theorem keep7_11 : X.keep 7 11 = some [0, 1, 5, 7, 8, 9, 10] := by kernel_rfl
@[simp] theorem keep7_12 : X.keep 7 12 = some [0, 1, 5, 7, 8, 9, 58] := by kernel_rfl
@[simp] theorem keep7_13 : X.keep 7 13 = some [4] := by kernel_rfl
@[simp] theorem keep7_14 : X.keep 7 14 = some [0, 1, 5, 7, 9, 60] := by kernel_rfl
@[simp] theorem keep7_15 : X.keep 7 15 = some [4] := by kernel_rfl
@[simp] theorem keep7_16 : X.keep 7 16 = some [0, 1, 5, 9, 11, 13] := by kernel_rfl
@[simp] theorem keep7_17 : X.keep 7 17 = some [0, 11, 13, 16] := by kernel_rfl
@[simp] theorem keep7_18 : X.keep 7 18 = some [4] := by kernel_rfl
@[simp] theorem keep8_0 : X.keep 8 0 = some [0, 1, 2] := by kernel_rfl
@[simp] theorem keep8_1 : X.keep 8 1 = some [0, 1, 2, 19] := by kernel_rfl
@[simp] theorem keep8_2 : X.keep 8 2 = some [6, 7] := by kernel_rfl
@[simp] theorem keep8_3 : X.keep 8 3 = some [0, 1, 2, 20, 21, 22] := by kernel_rfl
@[simp] theorem keep8_4 : X.keep 8 4 = some [0, 1, 2, 20, 21, 22, 23] := by kernel_rfl
@[simp] theorem keep8_5 : X.keep 8 5 = some [0, 1, 2, 9, 20, 21, 22] := by kernel_rfl
@[simp] theorem keep8_6 : X.keep 8 6 = some [0, 1, 2, 20, 21, 22, 41] := by kernel_rfl
@[simp] theorem keep8_7 : X.keep 8 7 = some [6, 7] := by kernel_rfl
@[simp] theorem keep8_8 : X.keep 8 8 = some [0, 1, 2, 20, 21, 22] := by kernel_rfl
@[simp] theorem keep8_9 : X.keep 8 9 = some [1, 2, 10] := by kernel_rfl
@[simp] theorem keep8_10 : X.keep 8 10 = some [1, 2, 10, 47] := by kernel_rfl
@[simp] theorem keep8_11 : X.keep 8 11 = some [6, 7] := by kernel_rfl
@[simp] theorem keep8_12 : X.keep 8 12 = some [1, 2, 10, 11] := by kernel_rfl
@[simp] theorem keep8_13 : X.keep 8 13 = some [1, 2, 10, 11, 12, 13] := by kernel_rfl
@[simp] theorem keep8_14 : X.keep 8 14 = some [2, 10, 11, 12, 13, 54, 55, 56] := by kernel_rfl
@[simp] theorem keep8_15 : X.keep 8 15 = some [2, 10, 11, 12, 13, 54, 55, 56, 57] := by kernel_rfl
@[simp] theorem keep8_16 : X.keep 8 16 = some [2, 10, 11, 12, 13, 14, 15, 54, 55, 56] := by kernel_rfl
@[simp] theorem keep8_17 : X.keep 8 17 = some [2, 10, 11, 12, 13, 14, 15, 16, 54, 55, 56] := by kernel_rfl
@[simp] theorem keep8_18 : X.keep 8 18 = some [2, 10, 11, 12, 13, 14, 15, 16, 54, 55, 56, 63] := by kernel_rfl
@[simp] theorem keep8_19 : X.keep 8 19 = some [2, 10, 11, 12, 13, 14, 15, 16, 54, 55, 56] := by kernel_rfl
@[simp] theorem keep8_20 : X.keep 8 20 = some [2, 10, 11, 12, 13, 14, 15, 54, 55, 56] := by kernel_rfl
@[simp] theorem keep8_21 : X.keep 8 21 = some [2, 10, 11, 12, 13, 54, 55, 56] := by kernel_rfl
@[simp] theorem keep8_22 : X.keep 8 22 = some [2, 10, 11, 12, 13, 14, 15, 54, 55, 56, 80] := by kernel_rfl
@[simp] theorem keep8_23 : X.keep 8 23 = some [2, 10, 11, 12, 13, 14, 15, 54, 55, 56, 83] := by kernel_rfl
@[simp] theorem keep8_24 : X.keep 8 24 = some [2, 10, 11, 12, 13, 54, 55, 56] := by kernel_rfl
@[simp] theorem keep8_25 : X.keep 8 25 = some [2, 10, 11, 12, 13, 54, 55, 56] := by kernel_rfl
@[simp] theorem keep8_26 : X.keep 8 26 = some [2, 10, 12, 13] := by kernel_rfl
@[simp] theorem keep8_27 : X.keep 8 27 = some [10, 12, 13, 102] := by kernel_rfl
@[simp] theorem keep8_28 : X.keep 8 28 = some [10, 13] := by kernel_rfl
@[simp] theorem keep8_29 : X.keep 8 29 = some [10, 13] := by kernel_rfl
@[simp] theorem keep8_30 : X.keep 8 30 = some [6, 7] := by kernel_rfl
@[simp] theorem keep9_0 : X.keep 9 0 = some [1, 2, 4, 7, 8] := by kernel_rfl
@[simp] theorem keep9_1 : X.keep 9 1 = some [1, 2, 4, 7, 8, 30] := by kernel_rfl
@[simp] theorem keep9_2 : X.keep 9 2 = some [8, 9, 10] := by kernel_rfl
@[simp] theorem keep9_3 : X.keep 9 3 = some [1, 2, 4, 7, 8, 32] := by kernel_rfl
@[simp] theorem keep9_4 : X.keep 9 4 = some [35] := by kernel_rfl
@[simp] theorem keep9_5 : X.keep 9 5 = some [8, 9, 10] := by kernel_rfl
@[simp] theorem keep9_6 : X.keep 9 6 = some [8, 9, 10] := by kernel_rfl
@[simp] theorem keep9_7 : X.keep 9 7 = some [1, 2, 4, 8, 11] := by kernel_rfl
@[simp] theorem keep9_8 : X.keep 9 8 = some [1, 2, 4, 8, 11, 12] := by kernel_rfl
@[simp] theorem keep9_9 : X.keep 9 9 = some [1, 2, 4, 8, 11, 12, 43] := by kernel_rfl
@[simp] theorem keep9_10 : X.keep 9 10 = some [8, 9, 10] := by kernel_rfl
@[simp] theorem keep9_11 : X.keep 9 11 = some [1, 2, 4, 8, 11, 12, 13] := by kernel_rfl
@[simp] theorem keep9_12 : X.keep 9 12 = some [1, 2, 4, 8, 11, 12, 13, 46, 47] := by kernel_rfl
@[simp] theorem keep9_13 : X.keep 9 13 = some [1, 2, 4, 8, 11, 12, 13, 46, 47, 48] := by kernel_rfl
@[simp] theorem keep9_14 : X.keep 9 14 = some [1, 2, 4, 8, 11, 12, 13, 14, 46, 47] := by kernel_rfl
@[simp] theorem keep9_15 : X.keep 9 15 = some [1, 2, 4, 8, 11, 12, 13, 46, 47, 62] := by kernel_rfl
@[simp] theorem keep9_16 : X.keep 9 16 = some [8, 9, 10] := by kernel_rfl
@[simp] theorem keep9_17 : X.keep 9 17 = some [1, 2, 4, 8, 11, 12, 13, 46, 47] := by kernel_rfl
@[simp] theorem keep9_18 : X.keep 9 18 = some [1, 2, 8, 11, 13, 15] := by kernel_rfl
@[simp] theorem keep9_19 : X.keep 9 19 = some [1, 2, 8, 11, 13, 15, 69] := by kernel_rfl
@[simp] theorem keep9_20 : X.keep 9 20 = some [8, 9, 10] := by kernel_rfl
@[simp] theorem keep9_21 : X.keep 9 21 = some [1, 2, 8, 11, 13, 15, 16] := by kernel_rfl
@[simp] theorem keep9_22 : X.keep 9 22 = some [1, 2, 8, 11, 13, 15, 16] := by kernel_rfl
@[simp] theorem keep9_23 : X.keep 9 23 = some [1, 2, 8, 11, 13, 15, 16, 75] := by kernel_rfl
@[simp] theorem keep9_24 : X.keep 9 24 = some [8, 9, 10] := by kernel_rfl
@[simp] theorem keep9_25 : X.keep 9 25 = some [1, 2, 8, 11, 13, 15, 16, 75, 76] := by kernel_rfl
@[simp] theorem keep9_26 : X.keep 9 26 = some [1, 2, 8, 11, 13, 15, 16, 81] := by kernel_rfl
@[simp] theorem keep9_27 : X.keep 9 27 = some [8, 9, 10] := by kernel_rfl
@[simp] theorem keep9_28 : X.keep 9 28 = some [2, 8, 11, 13, 15, 16] := by kernel_rfl
@[simp] theorem keep9_29 : X.keep 9 29 = some [2, 8, 11, 13, 15, 16, 85, 86, 87] := by kernel_rfl
@[simp] theorem keep9_30 : X.keep 9 30 = some [2, 8, 11, 13, 15, 16, 85, 86, 87, 88] := by kernel_rfl
@[simp] theorem keep9_31 : X.keep 9 31 = some [2, 8, 11, 13, 15, 16, 18, 85, 86, 87] := by kernel_rfl
@[simp] theorem keep9_32 : X.keep 9 32 = some [2, 8, 11, 13, 15, 16, 85, 86, 87, 94] := by kernel_rfl
@[simp] theorem keep9_33 : X.keep 9 33 = some [8, 9, 10] := by kernel_rfl
@[simp] theorem keep9_34 : X.keep 9 34 = some [2, 8, 11, 13, 15, 16, 85, 86, 87] := by kernel_rfl
@[simp] theorem keep9_35 : X.keep 9 35 = some [1, 8, 11, 13, 15, 16, 96] := by kernel_rfl
@[simp] theorem keep9_36 : X.keep 9 36 = some [1, 2, 8, 10, 11, 13, 15, 16] := by kernel_rfl
@[simp] theorem keep9_37 : X.keep 9 37 = some [1, 2, 8, 10, 11, 13, 15, 16, 105] := by kernel_rfl
@[simp] theorem keep9_38 : X.keep 9 38 = some [8, 9, 10] := by kernel_rfl
@[simp] theorem keep9_39 : X.keep 9 39 = some [2, 8, 11, 13, 15, 16] := by kernel_rfl
@[simp] theorem keep9_40 : X.keep 9 40 = some [8, 11, 13, 15, 16, 111, 112, 113] := by kernel_rfl
@[simp] theorem keep9_41 : X.keep 9 41 = some [8, 11, 13, 15, 16, 111, 112, 113, 114] := by kernel_rfl
@[simp] theorem keep9_42 : X.keep 9 42 = some [8, 11, 13, 15, 16, 19, 20, 111, 112, 113] := by kernel_rfl
@[simp] theorem keep9_43 : X.keep 9 43 = some [8, 11, 13, 15, 16, 19, 20, 21, 111, 112, 113] := by kernel_rfl
@[simp] theorem keep9_44 : X.keep 9 44 = some [8, 11, 13, 15, 16, 20, 21, 111, 112, 113, 131] := by kernel_rfl
@[simp] theorem keep9_45 : X.keep 9 45 = some [8, 11, 13, 15, 16, 20, 21, 111, 112, 113, 134] := by kernel_rfl
@[simp] theorem keep9_46 : X.keep 9 46 = some [8, 9, 10] := by kernel_rfl
@[simp] theorem keep9_47 : X.keep 9 47 = some [8, 11, 13, 15, 16, 21, 22, 23, 24, 111, 112, 113] := by kernel_rfl
@[simp] theorem keep9_48 : X.keep 9 48 = some [8, 11, 13, 15, 16, 21, 22, 23, 24, 111, 112, 113, 143] := by kernel_rfl
@[simp] theorem keep9_49 : X.keep 9 49 = some [8, 9, 10] := by kernel_rfl
@[simp] theorem keep9_50 : X.keep 9 50 = some [8, 11, 13, 15, 16, 21, 111, 112, 113] := by kernel_rfl
@[simp] theorem keep9_51 : X.keep 9 51 = some [8, 11, 13, 15, 16, 111, 112, 113] := by kernel_rfl
@[simp] theorem keep9_52 : X.keep 9 52 = some [8, 11, 13, 15, 16, 111, 112, 113] := by kernel_rfl
@[simp] theorem keep9_53 : X.keep 9 53 = some [8, 16, 157] := by kernel_rfl
@[simp] theorem keep9_54 : X.keep 9 54 = some [8, 9, 10] := by kernel_rfl
@[simp] theorem keep9_55 : X.keep 9 55 = some [8, 9, 10] := by kernel_rfl
@[simp] theorem keep10_0 : X.keep 10 0 = some [] := by kernel_rfl
@[simp] theorem keep10_1 : X.keep 10 1 = some [1] := by kernel_rfl
@[simp] theorem keep10_2 : X.keep 10 2 = some [1, 2, 3] := by kernel_rfl
@[simp] theorem keep10_3 : X.keep 10 3 = some [2, 3, 4, 5, 6] := by kernel_rfl
@[simp] theorem keep10_4 : X.keep 10 4 = some [0] := by kernel_rfl
@[simp] theorem keep11_0 : X.keep 11 0 = some [0, 1] := by kernel_rfl
@[simp] theorem keep11_1 : X.keep 11 1 = some [4] := by kernel_rfl
@[simp] theorem keep12_0 : X.keep 12 0 = some [0] := by kernel_rfl
@[simp] theorem keep12_1 : X.keep 12 1 = some [0, 3] := by kernel_rfl
@[simp] theorem keep12_2 : X.keep 12 2 = some [0, 3, 4] := by kernel_rfl
@[simp] theorem keep12_3 : X.keep 12 3 = some [0, 3, 4, 12] := by kernel_rfl
@[simp] theorem keep12_4 : X.keep 12 4 = some [0, 3, 4] := by kernel_rfl
@[simp] theorem keep12_5 : X.keep 12 5 = some [0, 3, 4] := by kernel_rfl
@[simp] theorem keep12_6 : X.keep 12 6 = some [2] := by kernel_rfl
@[simp] theorem keep13_0 : X.keep 13 0 = some [0] := by kernel_rfl
@[simp] theorem keep13_1 : X.keep 13 1 = some [2] := by kernel_rfl
@[simp] theorem keep14_0 : X.keep 14 0 = some [0, 1, 2] := by kernel_rfl
@[simp] theorem keep14_1 : X.keep 14 1 = some [0, 1, 2, 17] := by kernel_rfl
@[simp] theorem keep14_2 : X.keep 14 2 = some [6, 7] := by kernel_rfl
@[simp] theorem keep14_3 : X.keep 14 3 = some [0, 1, 2, 8] := by kernel_rfl
@[simp] theorem keep14_4 : X.keep 14 4 = some [0, 1, 2, 8, 9, 10] := by kernel_rfl
@[simp] theorem keep14_5 : X.keep 14 5 = some [0, 1, 2, 8, 9, 10, 11] := by kernel_rfl
@[simp] theorem keep14_6 : X.keep 14 6 = some [0, 1, 2, 8, 9, 10, 11, 26] := by kernel_rfl
@[simp] theorem keep14_7 : X.keep 14 7 = some [0, 1, 2, 8, 9, 10, 11] := by kernel_rfl
@[simp] theorem keep14_8 : X.keep 14 8 = some [0, 1, 2, 8, 9, 10, 11, 12] := by kernel_rfl
@[simp] theorem keep14_9 : X.keep 14 9 = some [0, 1, 2, 8, 9, 10, 11, 12, 48] := by kernel_rfl
@[simp] theorem keep14_10 : X.keep 14 10 = some [6, 7] := by kernel_rfl
@[simp] theorem keep14_11 : X.keep 14 11 = some [0, 1, 2, 8, 9, 10, 11, 12, 13] := by kernel_rfl
@[simp] theorem keep14_12 : X.keep 14 12 = some [0, 1, 2, 8, 9, 10, 11, 12, 13, 51] := by kernel_rfl
@[simp] theorem keep14_13 : X.keep 14 13 = some [0, 1, 2, 8, 9, 10, 11, 12, 13] := by kernel_rfl
@[simp] theorem keep14_14 : X.keep 14 14 = some [0, 1, 2, 8, 9, 10, 11, 12] := by kernel_rfl
@[simp] theorem keep14_15 : X.keep 14 15 = some [0, 1, 2, 8, 9, 10, 11, 12, 62] := by kernel_rfl
@[simp] theorem keep14_16 : X.keep 14 16 = some [0, 1, 2, 8, 9, 10, 11] := by kernel_rfl
@[simp] theorem keep14_17 : X.keep 14 17 = some [0, 1, 2, 8, 9, 10, 11, 74] := by kernel_rfl
@[simp] theorem keep14_18 : X.keep 14 18 = some [0, 1, 2, 8, 9, 10, 11] := by kernel_rfl
@[simp] theorem keep14_19 : X.keep 14 19 = some [1, 2, 8, 9, 10, 14] := by kernel_rfl
@[simp] theorem keep14_20 : X.keep 14 20 = some [2, 8, 9, 10, 14, 94] := by kernel_rfl
@[simp] theorem keep14_21 : X.keep 14 21 = some [6, 7] := by kernel_rfl
@[simp] theorem keep14_22 : X.keep 14 22 = some [2, 9, 10, 14] := by kernel_rfl
@[simp] theorem keep14_23 : X.keep 14 23 = some [9, 10, 14, 99] := by kernel_rfl
@[simp] theorem keep14_24 : X.keep 14 24 = some [6, 7] := by kernel_rfl
@[simp] theorem keep14_25 : X.keep 14 25 = some [6, 7] := by kernel_rfl
@[simp] theorem keep15_0 : X.keep 15 0 = some [0, 1, 2, 3] := by kernel_rfl
@[simp] theorem keep15_1 : X.keep 15 1 = some [0, 1, 2, 3, 25] := by kernel_rfl
@[simp] theorem keep15_2 : X.keep 15 2 = some [8, 9, 10] := by kernel_rfl
@[simp] theorem keep15_3 : X.keep 15 3 = some [1, 2, 3, 11] := by kernel_rfl
@[simp] theorem keep15_4 : X.keep 15 4 = some [1, 2, 3, 11, 30] := by kernel_rfl
@[simp] theorem keep15_5 : X.keep 15 5 = some [8, 9, 10] := by kernel_rfl
@[simp] theorem keep15_6 : X.keep 15 6 = some [1, 2, 3, 11, 12] := by kernel_rfl
@[simp] theorem keep15_7 : X.keep 15 7 = some [1, 2, 3, 11, 12] := by kernel_rfl
@[simp] theorem keep15_8 : X.keep 15 8 = some [1, 2, 3, 11, 12, 13] := by kernel_rfl
@[simp] theorem keep15_9 : X.keep 15 9 = some [1, 2, 3, 11, 12, 13, 51] := by kernel_rfl
@[simp] theorem keep15_10 : X.keep 15 10 = some [1, 2, 3, 11, 12, 13] := by kernel_rfl
@[simp] theorem keep15_11 : X.keep 15 11 = some [1, 2, 3, 11, 12, 13] := by kernel_rfl
@[simp] theorem keep15_12 : X.keep 15 12 = some [1, 2, 3, 11, 12, 14] := by kernel_rfl
@[simp] theorem keep15_13 : X.keep 15 13 = some [1, 2, 3, 11, 12, 14] := by kernel_rfl
@[simp] theorem keep15_14 : X.keep 15 14 = some [1, 3, 11, 12, 14, 15] := by kernel_rfl
@[simp] theorem keep15_15 : X.keep 15 15 = some [1, 3, 11, 12, 14, 15, 16] := by kernel_rfl
@[simp] theorem keep15_16 : X.keep 15 16 = some [1, 3, 11, 12, 14, 15, 16, 17] := by kernel_rfl
@[simp] theorem keep15_17 : X.keep 15 17 = some [1, 3, 11, 12, 14, 15, 16, 17, 94] := by kernel_rfl
@[simp] theorem keep15_18 : X.keep 15 18 = some [1, 3, 11, 12, 14, 15, 16, 17] := by kernel_rfl
@[simp] theorem keep15_19 : X.keep 15 19 = some [1, 3, 11, 12, 14, 15, 16, 17, 18] := by kernel_rfl
@[simp] theorem keep15_20 : X.keep 15 20 = some [1, 3, 11, 12, 14, 15, 16, 17, 18, 19] := by kernel_rfl
@[simp] theorem keep15_21 : X.keep 15 21 = some [1, 3, 11, 12, 14, 15, 16, 17, 18, 19] := by kernel_rfl
@[simp] theorem keep15_22 : X.keep 15 22 = some [1, 3, 11, 12, 14, 15, 16, 17, 18, 146] := by kernel_rfl
@[simp] theorem keep15_23 : X.keep 15 23 = some [1, 3, 11, 12, 14, 15, 16, 17, 18] := by kernel_rfl
@[simp] theorem keep15_24 : X.keep 15 24 = some [1, 3, 11, 12, 14, 15, 16, 17] := by kernel_rfl
@[simp] theorem keep15_25 : X.keep 15 25 = some [11, 14, 16, 160] := by kernel_rfl
@[simp] theorem keep15_26 : X.keep 15 26 = some [8, 9, 10] := by kernel_rfl
@[simp] theorem keep15_27 : X.keep 15 27 = some [8, 9, 10] := by kernel_rfl
@[simp] theorem keep16_0 : X.keep 16 0 = some [0, 1] := by kernel_rfl
@[simp] theorem keep16_1 : X.keep 16 1 = some [0, 1, 10] := by kernel_rfl
@[simp] theorem keep16_2 : X.keep 16 2 = some [4] := by kernel_rfl
@[simp] theorem keep16_3 : X.keep 16 3 = some [0, 1, 5] := by kernel_rfl
@[simp] theorem keep16_4 : X.keep 16 4 = some [0, 1, 5, 14] := by kernel_rfl
@[simp] theorem keep16_5 : X.keep 16 5 = some [0, 1, 5] := by kernel_rfl
@[simp] theorem keep16_6 : X.keep 16 6 = some [0, 1, 5, 25] := by kernel_rfl
@[simp] theorem keep16_7 : X.keep 16 7 = some [4] := by kernel_rfl
@[simp] theorem keep16_8 : X.keep 16 8 = some [4] := by kernel_rfl
@[simp] theorem keep17_0 : X.keep 17 0 = some [0, 1] := by kernel_rfl
@[simp] theorem keep17_1 : X.keep 17 1 = some [0, 1, 18] := by kernel_rfl
@[simp] theorem keep17_2 : X.keep 17 2 = some [4] := by kernel_rfl
@[simp] theorem keep17_3 : X.keep 17 3 = some [5] := by kernel_rfl
@[simp] theorem keep17_4 : X.keep 17 4 = some [5, 6] := by kernel_rfl
@[simp] theorem keep17_5 : X.keep 17 5 = some [5, 6, 33] := by kernel_rfl
@[simp] theorem keep17_6 : X.keep 17 6 = some [5, 6] := by kernel_rfl
@[simp] theorem keep17_7 : X.keep 17 7 = some [5, 6, 40] := by kernel_rfl
@[simp] theorem keep17_8 : X.keep 17 8 = some [4] := by kernel_rfl
@[simp] theorem keep17_9 : X.keep 17 9 = some [4] := by kernel_rfl
@[simp] theorem keep18_0 : X.keep 18 0 = some [0, 1] := by kernel_rfl
@[simp] theorem keep18_1 : X.keep 18 1 = some [0, 1] := by kernel_rfl
@[simp] theorem keep18_2 : X.keep 18 2 = some [0, 1, 9] := by kernel_rfl
@[simp] theorem keep18_3 : X.keep 18 3 = some [0] := by kernel_rfl
@[simp] theorem keep18_4 : X.keep 18 4 = some [4] := by kernel_rfl
@[simp] theorem keep19_0 : X.keep 19 0 = some [2, 3] := by kernel_rfl
@[simp] theorem keep19_1 : X.keep 19 1 = some [2, 3, 5] := by kernel_rfl
@[simp] theorem keep19_2 : X.keep 19 2 = some [2, 3, 5, 11] := by kernel_rfl
@[simp] theorem keep19_3 : X.keep 19 3 = some [4] := by kernel_rfl
@[simp] theorem keep19_4 : X.keep 19 4 = some [2, 3, 5, 14] := by kernel_rfl
@[simp] theorem keep19_5 : X.keep 19 5 = some [4] := by kernel_rfl
@[simp] theorem keep19_6 : X.keep 19 6 = some [2, 3, 5, 6] := by kernel_rfl
@[simp] theorem keep19_7 : X.keep 19 7 = some [2, 3, 5, 6, 7] := by kernel_rfl
@[simp] theorem keep19_8 : X.keep 19 8 = some [2, 3, 5, 6, 7, 24] := by kernel_rfl
@[simp] theorem keep19_9 : X.keep 19 9 = some [2, 3, 5, 6, 7, 24, 25] := by kernel_rfl
@[simp] theorem keep19_10 : X.keep 19 10 = some [6] := by kernel_rfl
@[simp] theorem keep19_11 : X.keep 19 11 = some [2, 3, 5, 6, 7, 24, 27] := by kernel_rfl
@[simp] theorem keep19_12 : X.keep 19 12 = some [6] := by kernel_rfl
@[simp] theorem keep19_13 : X.keep 19 13 = some [2, 3, 5, 6, 7, 24, 60] := by kernel_rfl
@[simp] theorem keep19_14 : X.keep 19 14 = some [2, 3, 5, 6, 7, 24, 60] := by kernel_rfl
@[simp] theorem keep19_15 : X.keep 19 15 = some [2, 3, 5, 6, 7, 24, 60] := by kernel_rfl
@[simp] theorem keep19_16 : X.keep 19 16 = some [6] := by kernel_rfl
@[simp] theorem keep19_17 : X.keep 19 17 = some [2, 3, 5, 6, 24, 84] := by kernel_rfl
@[simp] theorem keep19_18 : X.keep 19 18 = some [2, 3, 5, 6, 24, 84] := by kernel_rfl
@[simp] theorem keep19_19 : X.keep 19 19 = some [6] := by kernel_rfl
@[simp] theorem keep19_20 : X.keep 19 20 = some [2, 5, 6, 103] := by kernel_rfl
@[simp] theorem keep19_21 : X.keep 19 21 = some [6] := by kernel_rfl
@[simp] theorem keep19_22 : X.keep 19 22 = some [121] := by kernel_rfl
@[simp] theorem keep19_23 : X.keep 19 23 = some [4] := by kernel_rfl
@[simp] theorem keep19_24 : X.keep 19 24 = some [4] := by kernel_rfl
@[simp] theorem keep20_0 : X.keep 20 0 = some [0] := by kernel_rfl
@[simp] theorem keep20_1 : X.keep 20 1 = some [0, 4] := by kernel_rfl
@[simp] theorem keep20_2 : X.keep 20 2 = some [2] := by kernel_rfl
@[simp] theorem keep20_3 : X.keep 20 3 = some [2] := by kernel_rfl
@[simp] theorem keep21_0 : X.keep 21 0 = some [0, 4, 5] := by kernel_rfl
@[simp] theorem keep21_1 : X.keep 21 1 = some [0, 4, 5, 8] := by kernel_rfl
@[simp] theorem keep21_2 : X.keep 21 2 = some [0, 4, 5, 24] := by kernel_rfl
@[simp] theorem keep21_3 : X.keep 21 3 = some [6, 7] := by kernel_rfl
@[simp] theorem keep21_4 : X.keep 21 4 = some [4, 5, 9] := by kernel_rfl
@[simp] theorem keep21_5 : X.keep 21 5 = some [4, 5, 9, 28] := by kernel_rfl
@[simp] theorem keep21_6 : X.keep 21 6 = some [4, 5, 9, 28, 29] := by kernel_rfl
@[simp] theorem keep21_7 : X.keep 21 7 = some [6, 7] := by kernel_rfl
@[simp] theorem keep21_8 : X.keep 21 8 = some [4, 5, 9, 28, 39] := by kernel_rfl
@[simp] theorem keep21_9 : X.keep 21 9 = some [4, 5, 9, 28, 39] := by kernel_rfl
@[simp] theorem keep21_10 : X.keep 21 10 = some [4, 5, 9, 28, 39] := by kernel_rfl
@[simp] theorem keep21_11 : X.keep 21 11 = some [6, 7] := by kernel_rfl
@[simp] theorem keep21_12 : X.keep 21 12 = some [4, 5, 9, 28, 50] := by kernel_rfl
@[simp] theorem keep21_13 : X.keep 21 13 = some [4, 5, 9, 28, 50] := by kernel_rfl
@[simp] theorem keep21_14 : X.keep 21 14 = some [6, 7] := by kernel_rfl
@[simp] theorem keep21_15 : X.keep 21 15 = some [4, 9, 59] := by kernel_rfl
@[simp] theorem keep21_16 : X.keep 21 16 = some [6, 7] := by kernel_rfl
@[simp] theorem keep21_17 : X.keep 21 17 = some [6, 7] := by kernel_rfl
@[simp] theorem keep22_0 : X.keep 22 0 = some [0, 1] := by kernel_rfl
@[simp] theorem keep22_1 : X.keep 22 1 = some [3] := by kernel_rfl
@[simp] theorem keep23_0 : X.keep 23 0 = some [0, 1] := by kernel_rfl
@[simp] theorem keep23_1 : X.keep 23 1 = some [3] := by kernel_rfl
@[simp] theorem keep24_0 : X.keep 24 0 = some [0] := by kernel_rfl
@[simp] theorem keep24_1 : X.keep 24 1 = some [2] := by kernel_rfl
@[simp] theorem keep25_0 : X.keep 25 0 = some [0, 1, 4] := by kernel_rfl
@[simp] theorem keep25_1 : X.keep 25 1 = some [0, 4, 7, 8] := by kernel_rfl
@[simp] theorem keep25_2 : X.keep 25 2 = some [0, 4, 7, 8, 9] := by kernel_rfl
@[simp] theorem keep25_3 : X.keep 25 3 = some [0, 4, 6, 7, 8] := by kernel_rfl
@[simp] theorem keep25_4 : X.keep 25 4 = some [0, 4, 6, 7, 8, 16] := by kernel_rfl
@[simp] theorem keep25_5 : X.keep 25 5 = some [4, 5] := by kernel_rfl
@[simp] theorem keep25_6 : X.keep 25 6 = some [0, 4, 6, 7, 8, 23] := by kernel_rfl
@[simp] theorem keep25_7 : X.keep 25 7 = some [4, 5] := by kernel_rfl
@[simp] theorem keep25_8 : X.keep 25 8 = some [0, 4, 6, 7, 8, 29] := by kernel_rfl
@[simp] theorem keep25_9 : X.keep 25 9 = some [4, 5] := by kernel_rfl
@[simp] theorem keep25_10 : X.keep 25 10 = some [0, 4, 6, 7, 8, 45] := by kernel_rfl
@[simp] theorem keep25_11 : X.keep 25 11 = some [4, 5] := by kernel_rfl
@[simp] theorem keep25_12 : X.keep 25 12 = some [0, 4, 7, 8] := by kernel_rfl
@[simp] theorem keep25_13 : X.keep 25 13 = some [0, 4, 7, 8] := by kernel_rfl
@[simp] theorem keep25_14 : X.keep 25 14 = some [4, 5] := by kernel_rfl
@[simp] theorem keep26_0 : X.keep 26 0 = some [0, 3, 4] := by kernel_rfl
@[simp] theorem keep26_1 : X.keep 26 1 = some [0, 3, 4, 7] := by kernel_rfl
@[simp] theorem keep26_2 : X.keep 26 2 = some [0, 3, 4, 7, 19] := by kernel_rfl
@[simp] theorem keep26_3 : X.keep 26 3 = some [0, 3, 4, 7, 19, 20] := by kernel_rfl
@[simp] theorem keep26_4 : X.keep 26 4 = some [4, 5, 6] := by kernel_rfl
@[simp] theorem keep26_5 : X.keep 26 5 = some [0, 3, 4, 7, 19, 23] := by kernel_rfl
@[simp] theorem keep26_6 : X.keep 26 6 = some [4, 5, 6] := by kernel_rfl
@[simp] theorem keep26_7 : X.keep 26 7 = some [0, 3, 4, 7, 19, 26] := by kernel_rfl
@[simp] theorem keep26_8 : X.keep 26 8 = some [0, 3, 4, 7, 19, 26] := by kernel_rfl
@[simp] theorem keep26_9 : X.keep 26 9 = some [4, 7, 8, 9, 10] := by kernel_rfl
@[simp] theorem keep26_10 : X.keep 26 10 = some [4, 7, 8, 9, 10, 38] := by kernel_rfl
@[simp] theorem keep26_11 : X.keep 26 11 = some [4, 5, 6] := by kernel_rfl
@[simp] theorem keep26_12 : X.keep 26 12 = some [4, 5, 6] := by kernel_rfl
@[simp] theorem keep26_13 : X.keep 26 13 = some [0, 3, 4, 7, 45] := by kernel_rfl
@[simp] theorem keep26_14 : X.keep 26 14 = some [4, 7, 11, 12, 13] := by kernel_rfl
@[simp] theorem keep26_15 : X.keep 26 15 = some [4, 7, 11, 12, 13, 53] := by kernel_rfl
@[simp] theorem keep26_16 : X.keep 26 16 = some [4, 5, 6] := by kernel_rfl
@[simp] theorem keep26_17 : X.keep 26 17 = some [4, 7, 11, 12, 58] := by kernel_rfl
@[simp] theorem keep26_18 : X.keep 26 18 = some [4, 5, 6] := by kernel_rfl
@[simp] theorem keep26_19 : X.keep 26 19 = some [4, 5, 6] := by kernel_rfl
@[simp] theorem keep26_20 : X.keep 26 20 = some [0, 4, 7, 14] := by kernel_rfl
@[simp] theorem keep26_21 : X.keep 26 21 = some [4, 6, 7, 14, 15] := by kernel_rfl
@[simp] theorem keep26_22 : X.keep 26 22 = some [4, 6, 7, 14, 15, 77] := by kernel_rfl
@[simp] theorem keep26_23 : X.keep 26 23 = some [4, 5, 6] := by kernel_rfl
@[simp] theorem keep26_24 : X.keep 26 24 = some [4, 7, 14, 15, 81] := by kernel_rfl
@[simp] theorem keep26_25 : X.keep 26 25 = some [4, 7, 14, 15, 16] := by kernel_rfl
@[simp] theorem keep26_26 : X.keep 26 26 = some [4, 5, 6] := by kernel_rfl
@[simp] theorem keep26_27 : X.keep 26 27 = some [4, 5, 6] := by kernel_rfl
@[simp] theorem keep27_0 : X.keep 27 0 = some [2, 3] := by kernel_rfl
@[simp] theorem keep27_1 : X.keep 27 1 = some [2, 3, 5] := by kernel_rfl
@[simp] theorem keep27_2 : X.keep 27 2 = some [2, 3, 6] := by kernel_rfl
@[simp] theorem keep27_3 : X.keep 27 3 = some [2, 3, 6, 7] := by kernel_rfl
@[simp] theorem keep27_4 : X.keep 27 4 = some [2, 3, 6, 7, 81] := by kernel_rfl
@[simp] theorem keep27_5 : X.keep 27 5 = some [2, 3, 6, 7] := by kernel_rfl
@[simp] theorem keep27_6 : X.keep 27 6 = some [2, 3, 6, 7, 82] := by kernel_rfl
@[simp] theorem keep27_7 : X.keep 27 7 = some [4] := by kernel_rfl
@[simp] theorem keep27_8 : X.keep 27 8 = some [2, 3, 6, 7, 84] := by kernel_rfl
@[simp] theorem keep27_9 : X.keep 27 9 = some [2, 3, 6, 7, 84, 85] := by kernel_rfl
@[simp] theorem keep27_10 : X.keep 27 10 = some [6] := by kernel_rfl
@[simp] theorem keep27_11 : X.keep 27 11 = some [2, 3, 6, 7, 84, 105] := by kernel_rfl
@[simp] theorem keep27_12 : X.keep 27 12 = some [2, 3, 6, 7, 84, 105] := by kernel_rfl
@[simp] theorem keep27_13 : X.keep 27 13 = some [2, 3, 6, 7, 84, 105] := by kernel_rfl
@[simp] theorem keep27_14 : X.keep 27 14 = some [6] := by kernel_rfl
@[simp] theorem keep27_15 : X.keep 27 15 = some [2, 3, 6, 84, 118] := by kernel_rfl
@[simp] theorem keep27_16 : X.keep 27 16 = some [2, 3, 6, 84, 118] := by kernel_rfl
@[simp] theorem keep27_17 : X.keep 27 17 = some [6] := by kernel_rfl
@[simp] theorem keep27_18 : X.keep 27 18 = some [2, 6, 127] := by kernel_rfl
@[simp] theorem keep27_19 : X.keep 27 19 = some [6] := by kernel_rfl
@[simp] theorem keep27_20 : X.keep 27 20 = some [133] := by kernel_rfl
@[simp] theorem keep27_21 : X.keep 27 21 = some [4] := by kernel_rfl
@[simp] theorem keep27_22 : X.keep 27 22 = some [4] := by kernel_rfl
@[simp] theorem keep28_0 : X.keep 28 0 = some [0, 4, 5] := by kernel_rfl
@[simp] theorem keep28_1 : X.keep 28 1 = some [0, 4, 5, 8] := by kernel_rfl
@[simp] theorem keep28_2 : X.keep 28 2 = some [0, 4, 5, 25] := by kernel_rfl
@[simp] theorem keep28_3 : X.keep 28 3 = some [6, 7] := by kernel_rfl
@[simp] theorem keep28_4 : X.keep 28 4 = some [0, 4, 5, 9] := by kernel_rfl
@[simp] theorem keep28_5 : X.keep 28 5 = some [0, 4, 5, 9, 30] := by kernel_rfl
@[simp] theorem keep28_6 : X.keep 28 6 = some [0, 4, 5, 9, 30, 31] := by kernel_rfl
@[simp] theorem keep28_7 : X.keep 28 7 = some [0, 9, 10] := by kernel_rfl
@[simp] theorem keep28_8 : X.keep 28 8 = some [0, 9, 10, 37] := by kernel_rfl
@[simp] theorem keep28_9 : X.keep 28 9 = some [0, 9, 10] := by kernel_rfl
@[simp] theorem keep28_10 : X.keep 28 10 = some [6, 7] := by kernel_rfl
@[simp] theorem keep28_11 : X.keep 28 11 = some [0, 4, 5, 9, 30, 49] := by kernel_rfl
@[simp] theorem keep28_12 : X.keep 28 12 = some [0, 4, 5, 9, 30, 49] := by kernel_rfl
@[simp] theorem keep28_13 : X.keep 28 13 = some [0, 4, 5, 9, 30, 49] := by kernel_rfl
@[simp] theorem keep28_14 : X.keep 28 14 = some [6, 7] := by kernel_rfl
@[simp] theorem keep28_15 : X.keep 28 15 = some [0, 4, 5, 30, 58] := by kernel_rfl
@[simp] theorem keep28_16 : X.keep 28 16 = some [0, 4, 5, 30, 58] := by kernel_rfl
@[simp] theorem keep28_17 : X.keep 28 17 = some [6, 7] := by kernel_rfl
@[simp] theorem keep28_18 : X.keep 28 18 = some [0, 4, 67] := by kernel_rfl
@[simp] theorem keep28_19 : X.keep 28 19 = some [6, 7] := by kernel_rfl
@[simp] theorem keep28_20 : X.keep 28 20 = some [6, 7] := by kernel_rfl
@[simp] theorem keep29_0 : X.keep 29 0 = some [0] := by kernel_rfl
@[simp] theorem keep29_1 : X.keep 29 1 = some [0] := by kernel_rfl
@[simp] theorem keep29_2 : X.keep 29 2 = some [2] := by kernel_rfl
@[simp] theorem keep30_0 : X.keep 30 0 = some [0, 1] := by kernel_rfl
@[simp] theorem keep30_1 : X.keep 30 1 = some [0, 1, 19] := by kernel_rfl
@[simp] theorem keep30_2 : X.keep 30 2 = some [0, 1] := by kernel_rfl
@[simp] theorem keep30_3 : X.keep 30 3 = some [0, 1, 27] := by kernel_rfl
@[simp] theorem keep30_4 : X.keep 30 4 = some [4] := by kernel_rfl
@[simp] theorem keep30_5 : X.keep 30 5 = some [0, 1, 5] := by kernel_rfl
@[simp] theorem keep30_6 : X.keep 30 6 = some [5] := by kernel_rfl
@[simp] theorem keep30_7 : X.keep 30 7 = some [4] := by kernel_rfl
@[simp] theorem keep31_0 : X.keep 31 0 = some [0, 11] := by kernel_rfl
@[simp] theorem keep31_1 : X.keep 31 1 = some [] := by kernel_rfl
@[simp] theorem keep32_0 : X.keep 32 0 = some [0, 1, 2] := by kernel_rfl
@[simp] theorem keep32_1 : X.keep 32 1 = some [0, 1, 2, 7] := by kernel_rfl
@[simp] theorem keep32_2 : X.keep 32 2 = some [0, 1, 2, 7, 12] := by kernel_rfl
@[simp] theorem keep32_3 : X.keep 32 3 = some [0, 1, 2, 7] := by kernel_rfl
@[simp] theorem keep32_4 : X.keep 32 4 = some [0, 1, 2, 7, 37] := by kernel_rfl
@[simp] theorem keep32_5 : X.keep 32 5 = some [6] := by kernel_rfl
@[simp] theorem keep32_6 : X.keep 32 6 = some [6] := by kernel_rfl
@[simp] theorem keep33_0 : X.keep 33 0 = some [0] := by kernel_rfl
@[simp] theorem keep33_1 : X.keep 33 1 = some [2] := by kernel_rfl
@[simp] theorem keep34_0 : X.keep 34 0 = some [0, 1, 2, 3] := by kernel_rfl
@[simp] theorem keep34_1 : X.keep 34 1 = some [0, 1, 2, 3, 9] := by kernel_rfl
@[simp] theorem keep34_2 : X.keep 34 2 = some [0, 1, 2, 3, 9, 10] := by kernel_rfl
@[simp] theorem keep34_3 : X.keep 34 3 = some [0, 1, 2, 3, 9, 10, 22] := by kernel_rfl
@[simp] theorem keep34_4 : X.keep 34 4 = some [0, 1, 2, 3, 9, 10] := by kernel_rfl
@[simp] theorem keep34_5 : X.keep 34 5 = some [0, 1, 2, 3, 9, 10, 11] := by kernel_rfl
@[simp] theorem keep34_6 : X.keep 34 6 = some [0, 1, 2, 3, 9, 10, 11, 26] := by kernel_rfl
@[simp] theorem keep34_7 : X.keep 34 7 = some [0, 1, 2, 3, 9, 10, 11] := by kernel_rfl
@[simp] theorem keep34_8 : X.keep 34 8 = some [0, 1, 2, 3, 9, 10, 11] := by kernel_rfl
@[simp] theorem keep34_9 : X.keep 34 9 = some [0, 1, 2, 3, 9, 10, 11, 12] := by kernel_rfl
@[simp] theorem keep34_10 : X.keep 34 10 = some [0, 1, 2, 3, 9, 10, 11, 12] := by kernel_rfl
@[simp] theorem keep34_11 : X.keep 34 11 = some [0, 1, 2, 3, 9, 10, 11] := by kernel_rfl
@[simp] theorem keep34_12 : X.keep 34 12 = some [0, 1, 2, 3, 9, 10, 11, 51] := by kernel_rfl
@[simp] theorem keep34_13 : X.keep 34 13 = some [0, 1, 2, 3, 9, 10, 11] := by kernel_rfl
@[simp] theorem keep34_14 : X.keep 34 14 = some [0, 1, 2, 3, 9, 10, 11] := by kernel_rfl
@[simp] theorem keep34_15 : X.keep 34 15 = some [0, 1, 2, 3, 9, 10, 11] := by kernel_rfl
@[simp] theorem keep34_16 : X.keep 34 16 = some [0, 1, 2, 3, 9, 10] := by kernel_rfl
@[simp] theorem keep34_17 : X.keep 34 17 = some [8] := by kernel_rfl
@[simp] theorem keep35_0 : X.keep 35 0 = some [0, 3, 4] := by kernel_rfl
@[simp] theorem keep35_1 : X.keep 35 1 = some [0, 3, 4, 12] := by kernel_rfl
@[simp] theorem keep35_2 : X.keep 35 2 = some [4] := by kernel_rfl
@[simp] theorem keep35_3 : X.keep 35 3 = some [0, 4, 5, 6, 7] := by kernel_rfl
@[simp] theorem keep35_4 : X.keep 35 4 = some [0, 4, 5, 6] := by kernel_rfl
@[simp] theorem keep35_5 : X.keep 35 5 = some [4, 5] := by kernel_rfl
@[simp] theorem keep35_6 : X.keep 35 6 = some [4] := by kernel_rfl
@[simp] theorem keep36_0 : X.keep 36 0 = some [1] := by kernel_rfl
@[simp] theorem keep36_1 : X.keep 36 1 = some [1, 4] := by kernel_rfl
@[simp] theorem keep36_2 : X.keep 36 2 = some [1, 4, 5] := by kernel_rfl
@[simp] theorem keep36_3 : X.keep 36 3 = some [1, 4, 5] := by kernel_rfl
@[simp] theorem keep36_4 : X.keep 36 4 = some [1, 4, 5] := by kernel_rfl
@[simp] theorem keep36_5 : X.keep 36 5 = some [1, 4, 5] := by kernel_rfl
@[simp] theorem keep36_6 : X.keep 36 6 = some [1, 4, 5] := by kernel_rfl
@[simp] theorem keep36_7 : X.keep 36 7 = some [1, 4, 5] := by kernel_rfl
@[simp] theorem keep36_8 : X.keep 36 8 = some [13] := by kernel_rfl
@[simp] theorem keep36_9 : X.keep 36 9 = some [2] := by kernel_rfl
@[simp] theorem keep36_10 : X.keep 36 10 = some [2] := by kernel_rfl
@[simp] theorem keep36_11 : X.keep 36 11 = some [1, 4, 14] := by kernel_rfl
@[simp] theorem keep36_12 : X.keep 36 12 = some [2] := by kernel_rfl
@[simp] theorem keep36_13 : X.keep 36 13 = some [1, 4, 16] := by kernel_rfl
@[simp] theorem keep36_14 : X.keep 36 14 = some [2] := by kernel_rfl
@[simp] theorem keep36_15 : X.keep 36 15 = some [1, 4, 18] := by kernel_rfl
@[simp] theorem keep36_16 : X.keep 36 16 = some [1, 4, 18] := by kernel_rfl
@[simp] theorem keep36_17 : X.keep 36 17 = some [1, 4, 18] := by kernel_rfl
@[simp] theorem keep36_18 : X.keep 36 18 = some [2] := by kernel_rfl
@[simp] theorem keep36_19 : X.keep 36 19 = some [1, 4, 22] := by kernel_rfl
@[simp] theorem keep36_20 : X.keep 36 20 = some [2] := by kernel_rfl
@[simp] theorem keep36_21 : X.keep 36 21 = some [1, 24] := by kernel_rfl
@[simp] theorem keep36_22 : X.keep 36 22 = some [2] := by kernel_rfl
@[simp] theorem keep36_23 : X.keep 36 23 = some [28] := by kernel_rfl
@[simp] theorem keep36_24 : X.keep 36 24 = some [2] := by kernel_rfl
@[simp] theorem keep36_25 : X.keep 36 25 = some [2] := by kernel_rfl
@[simp] theorem keep37_0 : X.keep 37 0 = some [0] := by kernel_rfl
@[simp] theorem keep37_1 : X.keep 37 1 = some [3] := by kernel_rfl
@[simp] theorem keep37_2 : X.keep 37 2 = some [3, 4] := by kernel_rfl
@[simp] theorem keep37_3 : X.keep 37 3 = some [2] := by kernel_rfl
@[simp] theorem keep37_4 : X.keep 37 4 = some [3, 6] := by kernel_rfl
@[simp] theorem keep37_5 : X.keep 37 5 = some [3, 6] := by kernel_rfl
@[simp] theorem keep37_6 : X.keep 37 6 = some [2] := by kernel_rfl
@[simp] theorem keep37_7 : X.keep 37 7 = some [3, 9] := by kernel_rfl
@[simp] theorem keep37_8 : X.keep 37 8 = some [3, 9] := by kernel_rfl
@[simp] theorem keep37_9 : X.keep 37 9 = some [3, 9] := by kernel_rfl
@[simp] theorem keep37_10 : X.keep 37 10 = some [2] := by kernel_rfl
@[simp] theorem keep37_11 : X.keep 37 11 = some [3, 13] := by kernel_rfl
@[simp] theorem keep37_12 : X.keep 37 12 = some [13] := by kernel_rfl
@[simp] theorem keep37_13 : X.keep 37 13 = some [2] := by kernel_rfl
@[simp] theorem keep37_14 : X.keep 37 14 = some [2] := by kernel_rfl
@[simp] theorem keep38_0 : X.keep 38 0 = some [1, 2] := by kernel_rfl
@[simp] theorem keep38_1 : X.keep 38 1 = some [1, 2, 7] := by kernel_rfl
@[simp] theorem keep38_2 : X.keep 38 2 = some [4] := by kernel_rfl
@[simp] theorem keep38_3 : X.keep 38 3 = some [1, 2, 9] := by kernel_rfl
@[simp] theorem keep38_4 : X.keep 38 4 = some [4] := by kernel_rfl
@[simp] theorem keep38_5 : X.keep 38 5 = some [1, 2, 52] := by kernel_rfl
@[simp] theorem keep38_6 : X.keep 38 6 = some [4] := by kernel_rfl
@[simp] theorem keep38_7 : X.keep 38 7 = some [4] := by kernel_rfl
@[simp] theorem keep39_0 : X.keep 39 0 = some [0, 1, 2] := by kernel_rfl
@[simp] theorem keep39_1 : X.keep 39 1 = some [0, 1, 8, 9] := by kernel_rfl
@[simp] theorem keep39_2 : X.keep 39 2 = some [0, 1, 8, 9, 10] := by kernel_rfl
@[simp] theorem keep39_3 : X.keep 39 3 = some [0, 1, 7, 8, 9] := by kernel_rfl
@[simp] theorem keep39_4 : X.keep 39 4 = some [0, 1, 8, 9] := by kernel_rfl
@[simp] theorem keep39_5 : X.keep 39 5 = some [0, 1, 8, 9] := by kernel_rfl
@[simp] theorem keep39_6 : X.keep 39 6 = some [6] := by kernel_rfl
@[simp] theorem keep40_0 : X.keep 40 0 = some [0, 2, 4] := by kernel_rfl
@[simp] theorem keep40_1 : X.keep 40 1 = some [0, 4, 10] := by kernel_rfl
@[simp] theorem keep40_2 : X.keep 40 2 = some [0, 4] := by kernel_rfl
@[simp] theorem keep40_3 : X.keep 40 3 = some [0, 4, 14] := by kernel_rfl
@[simp] theorem keep40_4 : X.keep 40 4 = some [6] := by kernel_rfl
@[simp] theorem keep40_5 : X.keep 40 5 = some [0, 4, 21] := by kernel_rfl
@[simp] theorem keep40_6 : X.keep 40 6 = some [0, 4] := by kernel_rfl
@[simp] theorem keep40_7 : X.keep 40 7 = some [0, 4, 7] := by kernel_rfl
@[simp] theorem keep40_8 : X.keep 40 8 = some [0, 4, 7, 29] := by kernel_rfl
@[simp] theorem keep40_9 : X.keep 40 9 = some [0, 4, 7] := by kernel_rfl
@[simp] theorem keep40_10 : X.keep 40 10 = some [0, 4] := by kernel_rfl
@[simp] theorem keep40_11 : X.keep 40 11 = some [0, 4] := by kernel_rfl
@[simp] theorem keep40_12 : X.keep 40 12 = some [0, 4, 8] := by kernel_rfl
@[simp] theorem keep40_13 : X.keep 40 13 = some [0, 4, 8, 50] := by kernel_rfl
@[simp] theorem keep40_14 : X.keep 40 14 = some [6] := by kernel_rfl
@[simp] theorem keep40_15 : X.keep 40 15 = some [0, 4, 8, 57] := by kernel_rfl
@[simp] theorem keep40_16 : X.keep 40 16 = some [0, 4, 8] := by kernel_rfl
@[simp] theorem keep40_17 : X.keep 40 17 = some [0, 4, 8, 67] := by kernel_rfl
@[simp] theorem keep40_18 : X.keep 40 18 = some [0, 4, 8] := by kernel_rfl
@[simp] theorem keep40_19 : X.keep 40 19 = some [0, 4, 8] := by kernel_rfl
@[simp] theorem keep40_20 : X.keep 40 20 = some [0, 4, 88] := by kernel_rfl
@[simp] theorem keep40_21 : X.keep 40 21 = some [0, 4] := by kernel_rfl
@[simp] theorem keep40_22 : X.keep 40 22 = some [0, 4, 103] := by kernel_rfl
@[simp] theorem keep40_23 : X.keep 40 23 = some [0] := by kernel_rfl
@[simp] theorem keep40_24 : X.keep 40 24 = some [6] := by kernel_rfl
@[simp] theorem keep41_0 : X.keep 41 0 = some [0, 1] := by kernel_rfl
@[simp] theorem keep41_1 : X.keep 41 1 = some [4] := by kernel_rfl
@[simp] theorem keep42_0 : X.keep 42 0 = some [0] := by kernel_rfl
@[simp] theorem keep42_1 : X.keep 42 1 = some [0] := by kernel_rfl
@[simp] theorem keep43_0 : X.keep 43 0 = some [0, 1, 4] := by kernel_rfl
@[simp] theorem keep43_1 : X.keep 43 1 = some [0, 1, 4, 7] := by kernel_rfl
@[simp] theorem keep43_2 : X.keep 43 2 = some [0, 1, 4, 7, 17] := by kernel_rfl
@[simp] theorem keep43_3 : X.keep 43 3 = some [4, 5, 6] := by kernel_rfl
@[simp] theorem keep43_4 : X.keep 43 4 = some [0, 1, 4, 7, 8] := by kernel_rfl
@[simp] theorem keep43_5 : X.keep 43 5 = some [0, 1, 4, 7, 8, 9] := by kernel_rfl
@[simp] theorem keep43_6 : X.keep 43 6 = some [0, 1, 4, 7, 8, 9, 25] := by kernel_rfl
@[simp] theorem keep43_7 : X.keep 43 7 = some [0, 1, 4, 7, 8, 9] := by kernel_rfl
@[simp] theorem keep43_8 : X.keep 43 8 = some [0, 1, 4, 7, 8, 9, 10] := by kernel_rfl
@[simp] theorem keep43_9 : X.keep 43 9 = some [0, 1, 4, 7, 8, 10, 27, 28, 29] := by kernel_rfl
@[simp] theorem keep43_10 : X.keep 43 10 = some [0, 1, 4, 7, 8, 10, 27, 28, 29, 30] := by kernel_rfl
@[simp] theorem keep43_11 : X.keep 43 11 = some [0, 1, 4, 7, 8, 10, 12, 27, 28, 29] := by kernel_rfl
@[simp] theorem keep43_12 : X.keep 43 12 = some [0, 1, 4, 7, 8, 10, 27, 28, 29] := by kernel_rfl
@[simp] theorem keep43_13 : X.keep 43 13 = some [0, 1, 4, 7, 8, 10, 27, 28, 29] := by kernel_rfl
@[simp] theorem keep43_14 : X.keep 43 14 = some [0, 1, 4, 7, 8, 41] := by kernel_rfl
@[simp] theorem keep43_15 : X.keep 43 15 = some [4, 5, 6] := by kernel_rfl
@[simp] theorem keep43_16 : X.keep 43 16 = some [0, 1, 4, 7, 8, 47] := by kernel_rfl
@[simp] theorem keep43_17 : X.keep 43 17 = some [4, 5, 6] := by kernel_rfl
@[simp] theorem keep43_18 : X.keep 43 18 = some [0, 1, 4, 7, 8, 13] := by kernel_rfl
@[simp] theorem keep43_19 : X.keep 43 19 = some [1, 4, 7, 8, 13] := by kernel_rfl
@[simp] theorem keep43_20 : X.keep 43 20 = some [1, 4, 7, 8, 13, 14] := by kernel_rfl
@[simp] theorem keep43_21 : X.keep 43 21 = some [1, 4, 7, 8, 13, 14, 58] := by kernel_rfl
@[simp] theorem keep43_22 : X.keep 43 22 = some [1, 4, 7, 8, 13, 14, 62] := by kernel_rfl
@[simp] theorem keep43_23 : X.keep 43 23 = some [4, 5, 6] := by kernel_rfl
@[simp] theorem keep43_24 : X.keep 43 24 = some [1, 4, 7, 8] := by kernel_rfl
@[simp] theorem keep43_25 : X.keep 43 25 = some [1, 4, 7, 8] := by kernel_rfl
@[simp] theorem keep43_26 : X.keep 43 26 = some [4, 7, 8, 97] := by kernel_rfl
@[simp] theorem keep43_27 : X.keep 43 27 = some [4, 5, 6] := by kernel_rfl
@[simp] theorem keep43_28 : X.keep 43 28 = some [4, 5, 6] := by kernel_rfl
@[simp] theorem keep44_0 : X.keep 44 0 = some [0] := by kernel_rfl
@[simp] theorem keep44_1 : X.keep 44 1 = some [0, 3, 4, 5] := by kernel_rfl
@[simp] theorem keep44_2 : X.keep 44 2 = some [0, 3, 4, 5, 13] := by kernel_rfl
@[simp] theorem keep44_3 : X.keep 44 3 = some [2, 3, 4] := by kernel_rfl
@[simp] theorem keep44_4 : X.keep 44 4 = some [0, 3, 5, 21] := by kernel_rfl
@[simp] theorem keep44_5 : X.keep 44 5 = some [2, 3, 4] := by kernel_rfl
@[simp] theorem keep44_6 : X.keep 44 6 = some [2, 3, 4] := by kernel_rfl
@[simp] theorem keep45_0 : X.keep 45 0 = some [0, 1] := by kernel_rfl
@[simp] theorem keep45_1 : X.keep 45 1 = some [0, 1, 13] := by kernel_rfl
@[simp] theorem keep45_2 : X.keep 45 2 = some [4, 5] := by kernel_rfl
@[simp] theorem keep45_3 : X.keep 45 3 = some [0, 1, 17] := by kernel_rfl
@[simp] theorem keep45_4 : X.keep 45 4 = some [4, 5] := by kernel_rfl
@[simp] theorem keep45_5 : X.keep 45 5 = some [0, 1, 6] := by kernel_rfl
@[simp] theorem keep45_6 : X.keep 45 6 = some [0, 6, 18, 19] := by kernel_rfl
@[simp] theorem keep45_7 : X.keep 45 7 = some [0, 6, 18, 19, 20] := by kernel_rfl
@[simp] theorem keep45_8 : X.keep 45 8 = some [0, 6, 7, 18, 19] := by kernel_rfl
@[simp] theorem keep45_9 : X.keep 45 9 = some [0, 6, 18, 19] := by kernel_rfl
@[simp] theorem keep45_10 : X.keep 45 10 = some [0, 6, 18, 19] := by kernel_rfl
@[simp] theorem keep45_11 : X.keep 45 11 = some [4, 5] := by kernel_rfl
@[simp] theorem keep46_0 : X.keep 46 0 = some [1] := by kernel_rfl
@[simp] theorem keep46_1 : X.keep 46 1 = some [1, 6] := by kernel_rfl
@[simp] theorem keep46_2 : X.keep 46 2 = some [2] := by kernel_rfl
@[simp] theorem keep46_3 : X.keep 46 3 = some [1, 8] := by kernel_rfl
@[simp] theorem keep46_4 : X.keep 46 4 = some [1, 8, 9] := by kernel_rfl
@[simp] theorem keep46_5 : X.keep 46 5 = some [1, 8, 9] := by kernel_rfl
@[simp] theorem keep46_6 : X.keep 46 6 = some [1, 8, 9] := by kernel_rfl
@[simp] theorem keep46_7 : X.keep 46 7 = some [1, 8, 9] := by kernel_rfl
@[simp] theorem keep46_8 : X.keep 46 8 = some [1, 8, 9] := by kernel_rfl
@[simp] theorem keep46_9 : X.keep 46 9 = some [1, 8, 9] := by kernel_rfl
@[simp] theorem keep46_10 : X.keep 46 10 = some [17] := by kernel_rfl
@[simp] theorem keep46_11 : X.keep 46 11 = some [2] := by kernel_rfl
@[simp] theorem keep46_12 : X.keep 46 12 = some [2] := by kernel_rfl
@[simp] theorem keep46_13 : X.keep 46 13 = some [8, 18] := by kernel_rfl
@[simp] theorem keep46_14 : X.keep 46 14 = some [2] := by kernel_rfl
@[simp] theorem keep46_15 : X.keep 46 15 = some [8, 20] := by kernel_rfl
@[simp] theorem keep46_16 : X.keep 46 16 = some [2] := by kernel_rfl
@[simp] theorem keep46_17 : X.keep 46 17 = some [8, 22] := by kernel_rfl
@[simp] theorem keep46_18 : X.keep 46 18 = some [8, 22] := by kernel_rfl
@[simp] theorem keep46_19 : X.keep 46 19 = some [8, 22] := by kernel_rfl
@[simp] theorem keep46_20 : X.keep 46 20 = some [2] := by kernel_rfl
@[simp] theorem keep46_21 : X.keep 46 21 = some [8, 26] := by kernel_rfl
@[simp] theorem keep46_22 : X.keep 46 22 = some [2] := by kernel_rfl
@[simp] theorem keep46_23 : X.keep 46 23 = some [28] := by kernel_rfl
@[simp] theorem keep46_24 : X.keep 46 24 = some [2] := by kernel_rfl
@[simp] theorem keep46_25 : X.keep 46 25 = some [2] := by kernel_rfl
@[simp] theorem keep47_0 : X.keep 47 0 = some [0] := by kernel_rfl
@[simp] theorem keep47_1 : X.keep 47 1 = some [3] := by kernel_rfl
@[simp] theorem keep47_2 : X.keep 47 2 = some [3, 4] := by kernel_rfl
@[simp] theorem keep47_3 : X.keep 47 3 = some [2] := by kernel_rfl
@[simp] theorem keep47_4 : X.keep 47 4 = some [3, 6] := by kernel_rfl
@[simp] theorem keep47_5 : X.keep 47 5 = some [3, 6] := by kernel_rfl
@[simp] theorem keep47_6 : X.keep 47 6 = some [2] := by kernel_rfl
@[simp] theorem keep47_7 : X.keep 47 7 = some [3, 9] := by kernel_rfl
@[simp] theorem keep47_8 : X.keep 47 8 = some [3, 9] := by kernel_rfl
@[simp] theorem keep47_9 : X.keep 47 9 = some [9] := by kernel_rfl
@[simp] theorem keep47_10 : X.keep 47 10 = some [2] := by kernel_rfl
@[simp] theorem keep47_11 : X.keep 47 11 = some [2] := by kernel_rfl
@[simp] theorem keep48_0 : X.keep 48 0 = some [1, 2] := by kernel_rfl
@[simp] theorem keep48_1 : X.keep 48 1 = some [1, 2, 7] := by kernel_rfl
@[simp] theorem keep48_2 : X.keep 48 2 = some [4] := by kernel_rfl
@[simp] theorem keep48_3 : X.keep 48 3 = some [1, 2, 9] := by kernel_rfl
@[simp] theorem keep48_4 : X.keep 48 4 = some [4] := by kernel_rfl
@[simp] theorem keep48_5 : X.keep 48 5 = some [4] := by kernel_rfl
@[simp] theorem keep49_0 : X.keep 49 0 = some [0, 1, 2] := by kernel_rfl
@[simp] theorem keep49_1 : X.keep 49 1 = some [7] := by kernel_rfl
@[simp] theorem keep49_2 : X.keep 49 2 = some [6] := by kernel_rfl
@[simp] theorem keep50_0 : X.keep 50 0 = some [0, 2, 4] := by kernel_rfl
@[simp] theorem keep50_1 : X.keep 50 1 = some [0, 2, 4] := by kernel_rfl
@[simp] theorem keep50_2 : X.keep 50 2 = some [0, 4, 10] := by kernel_rfl
@[simp] theorem keep50_3 : X.keep 50 3 = some [0, 4, 8] := by kernel_rfl
@[simp] theorem keep50_4 : X.keep 50 4 = some [0, 4, 8, 12] := by kernel_rfl
@[simp] theorem keep50_5 : X.keep 50 5 = some [0, 4, 8] := by kernel_rfl
@[simp] theorem keep50_6 : X.keep 50 6 = some [0, 4, 7] := by kernel_rfl
@[simp] theorem keep50_7 : X.keep 50 7 = some [0, 4, 7, 36] := by kernel_rfl
@[simp] theorem keep50_8 : X.keep 50 8 = some [0, 4, 7] := by kernel_rfl
@[simp] theorem keep50_9 : X.keep 50 9 = some [0, 4, 7] := by kernel_rfl
@[simp] theorem keep50_10 : X.keep 50 10 = some [0, 4, 7, 51] := by kernel_rfl
@[simp] theorem keep50_11 : X.keep 50 11 = some [0, 4, 7] := by kernel_rfl
@[simp] theorem keep50_12 : X.keep 50 12 = some [0, 4, 7, 66] := by kernel_rfl
@[simp] theorem keep50_13 : X.keep 50 13 = some [0, 4, 7] := by kernel_rfl
@[simp] theorem keep50_14 : X.keep 50 14 = some [0, 4, 7, 69] := by kernel_rfl
@[simp] theorem keep50_15 : X.keep 50 15 = some [0, 7] := by kernel_rfl
@[simp] theorem keep50_16 : X.keep 50 16 = some [6] := by kernel_rfl
@[simp] theorem keep51_0 : X.keep 51 0 = some [0, 1] := by kernel_rfl
@[simp] theorem keep51_1 : X.keep 51 1 = some [4] := by kernel_rfl
@[simp] theorem keep52_0 : X.keep 52 0 = some [0, 3, 4] := by kernel_rfl
@[simp] theorem keep52_1 : X.keep 52 1 = some [0, 3, 4, 7] := by kernel_rfl
@[simp] theorem keep52_2 : X.keep 52 2 = some [0, 3, 4, 7, 15] := by kernel_rfl
@[simp] theorem keep52_3 : X.keep 52 3 = some [4, 5, 6] := by kernel_rfl
@[simp] theorem keep52_4 : X.keep 52 4 = some [0, 3, 4, 7, 8] := by kernel_rfl
@[simp] theorem keep52_5 : X.keep 52 5 = some [0, 3, 4, 7, 8, 9] := by kernel_rfl
@[simp] theorem keep52_6 : X.keep 52 6 = some [0, 3, 4, 7, 8, 9, 10] := by kernel_rfl
@[simp] theorem keep52_7 : X.keep 52 7 = some [0, 3, 4, 8, 9, 10, 25] := by kernel_rfl
@[simp] theorem keep52_8 : X.keep 52 8 = some [0, 3, 4, 8, 9, 10, 25, 26] := by kernel_rfl
@[simp] theorem keep52_9 : X.keep 52 9 = some [0, 4, 8, 9, 10, 11] := by kernel_rfl
@[simp] theorem keep52_10 : X.keep 52 10 = some [0, 4, 8, 9] := by kernel_rfl
@[simp] theorem keep52_11 : X.keep 52 11 = some [0, 3, 4, 8, 9, 10, 25, 44] := by kernel_rfl
@[simp] theorem keep52_12 : X.keep 52 12 = some [0, 3, 4, 8, 9, 10, 25, 44] := by kernel_rfl
@[simp] theorem keep52_13 : X.keep 52 13 = some [0, 3, 4, 8, 9, 10, 25, 44] := by kernel_rfl
@[simp] theorem keep52_14 : X.keep 52 14 = some [0, 4, 8, 9] := by kernel_rfl
@[simp] theorem keep52_15 : X.keep 52 15 = some [0, 3, 4, 8, 9, 25, 52] := by kernel_rfl
@[simp] theorem keep52_16 : X.keep 52 16 = some [0, 3, 4, 8, 9, 25, 52] := by kernel_rfl
@[simp] theorem keep52_17 : X.keep 52 17 = some [0, 4, 8, 9] := by kernel_rfl
@[simp] theorem keep52_18 : X.keep 52 18 = some [0, 4, 8, 9, 60] := by kernel_rfl
@[simp] theorem keep52_19 : X.keep 52 19 = some [0, 4, 8, 9] := by kernel_rfl
@[simp] theorem keep52_20 : X.keep 52 20 = some [0, 4, 8, 9] := by kernel_rfl
@[simp] theorem keep52_21 : X.keep 52 21 = some [0, 4, 8, 9, 75] := by kernel_rfl
@[simp] theorem keep52_22 : X.keep 52 22 = some [4, 5, 6] := by kernel_rfl
@[simp] theorem keep52_23 : X.keep 52 23 = some [4, 5, 6] := by kernel_rfl
@[simp] theorem keep53_0 : X.keep 53 0 = some [1] := by kernel_rfl
@[simp] theorem keep53_1 : X.keep 53 1 = some [2] := by kernel_rfl
@[simp] theorem keep54_0 : X.keep 54 0 = some [0, 1, 2] := by kernel_rfl
@[simp] theorem keep54_1 : X.keep 54 1 = some [6] := by kernel_rfl
@[simp] theorem keep55_0 : X.keep 55 0 = some [0, 1] := by kernel_rfl
@[simp] theorem keep55_1 : X.keep 55 1 = some [0, 1, 5, 6] := by kernel_rfl
@[simp] theorem keep55_2 : X.keep 55 2 = some [1, 5, 6, 7] := by kernel_rfl
@[simp] theorem keep55_3 : X.keep 55 3 = some [1, 5, 6, 7, 16] := by kernel_rfl
@[simp] theorem keep55_4 : X.keep 55 4 = some [1, 6, 7] := by kernel_rfl
@[simp] theorem keep55_5 : X.keep 55 5 = some [7] := by kernel_rfl
@[simp] theorem keep55_6 : X.keep 55 6 = some [4] := by kernel_rfl
@[simp] theorem keep56_0 : X.keep 56 0 = some [0, 1, 2] := by kernel_rfl
@[simp] theorem keep56_1 : X.keep 56 1 = some [6] := by kernel_rfl
@[simp] theorem keep56_2 : X.keep 56 2 = some [5] := by kernel_rfl
@[simp] theorem keep57_0 : X.keep 57 0 = some [0] := by kernel_rfl
@[simp] theorem keep57_1 : X.keep 57 1 = some [0, 8] := by kernel_rfl
@[simp] theorem keep57_2 : X.keep 57 2 = some [2, 3, 4] := by kernel_rfl
@[simp] theorem keep57_3 : X.keep 57 3 = some [0] := by kernel_rfl
@[simp] theorem keep57_4 : X.keep 57 4 = some [0, 11] := by kernel_rfl
@[simp] theorem keep57_5 : X.keep 57 5 = some [2, 3, 4] := by kernel_rfl
@[simp] theorem keep57_6 : X.keep 57 6 = some [0, 11, 16] := by kernel_rfl
@[simp] theorem keep57_7 : X.keep 57 7 = some [0, 5] := by kernel_rfl
@[simp] theorem keep57_8 : X.keep 57 8 = some [0, 11, 18] := by kernel_rfl
@[simp] theorem keep57_9 : X.keep 57 9 = some [0, 5] := by kernel_rfl
@[simp] theorem keep57_10 : X.keep 57 10 = some [0, 11, 20] := by kernel_rfl
@[simp] theorem keep57_11 : X.keep 57 11 = some [0, 5] := by kernel_rfl
@[simp] theorem keep57_12 : X.keep 57 12 = some [0, 11, 22] := by kernel_rfl
@[simp] theorem keep57_13 : X.keep 57 13 = some [0, 22] := by kernel_rfl
@[simp] theorem keep57_14 : X.keep 57 14 = some [2, 3, 4] := by kernel_rfl
@[simp] theorem keep57_15 : X.keep 57 15 = some [2, 4, 5] := by kernel_rfl
@[simp] theorem keep57_16 : X.keep 57 16 = some [2, 4, 5, 33] := by kernel_rfl
@[simp] theorem keep57_17 : X.keep 57 17 = some [2, 3, 4] := by kernel_rfl
@[simp] theorem keep57_18 : X.keep 57 18 = some [2, 3, 4] := by kernel_rfl
@[simp] theorem keep58_0 : X.keep 58 0 = some [0] := by kernel_rfl
@[simp] theorem keep58_1 : X.keep 58 1 = some [2] := by kernel_rfl
@[simp] theorem keep59_0 : X.keep 59 0 = some [1] := by kernel_rfl
@[simp] theorem keep59_1 : X.keep 59 1 = some [2] := by kernel_rfl
@[simp] theorem keep60_0 : X.keep 60 0 = some [1] := by kernel_rfl
@[simp] theorem keep60_1 : X.keep 60 1 = some [2] := by kernel_rfl
@[simp] theorem keep61_0 : X.keep 61 0 = some [0, 1, 2] := by kernel_rfl
@[simp] theorem keep61_1 : X.keep 61 1 = some [0, 1, 2, 27] := by kernel_rfl
@[simp] theorem keep61_2 : X.keep 61 2 = some [6, 7] := by kernel_rfl
@[simp] theorem keep61_3 : X.keep 61 3 = some [1, 2, 8] := by kernel_rfl
@[simp] theorem keep61_4 : X.keep 61 4 = some [1, 2, 8, 9] := by kernel_rfl
@[simp] theorem keep61_5 : X.keep 61 5 = some [1, 2, 8, 9, 33] := by kernel_rfl
@[simp] theorem keep61_6 : X.keep 61 6 = some [1, 2, 8, 9] := by kernel_rfl
@[simp] theorem keep61_7 : X.keep 61 7 = some [1, 2, 8, 9] := by kernel_rfl
@[simp] theorem keep61_8 : X.keep 61 8 = some [6, 7] := by kernel_rfl
@[simp] theorem keep62_0 : X.keep 62 0 = some [0, 1] := by kernel_rfl
@[simp] theorem keep62_1 : X.keep 62 1 = some [0, 1, 5] := by kernel_rfl
@[simp] theorem keep62_2 : X.keep 62 2 = some [1, 5, 6] := by kernel_rfl
@[simp] theorem keep62_3 : X.keep 62 3 = some [1, 5, 6, 14] := by kernel_rfl
@[simp] theorem keep62_4 : X.keep 62 4 = some [4] := by kernel_rfl
@[simp] theorem keep62_5 : X.keep 62 5 = some [1, 5, 6, 7] := by kernel_rfl
@[simp] theorem keep62_6 : X.keep 62 6 = some [1, 5, 6, 7, 21] := by kernel_rfl
@[simp] theorem keep62_7 : X.keep 62 7 = some [1, 5, 6, 7] := by kernel_rfl
@[simp] theorem keep62_8 : X.keep 62 8 = some [6] := by kernel_rfl
@[simp] theorem keep62_9 : X.keep 62 9 = some [4] := by kernel_rfl
@[simp] theorem keep63_0 : X.keep 63 0 = some [0, 1] := by kernel_rfl
@[simp] theorem keep63_1 : X.keep 63 1 = some [5] := by kernel_rfl
@[simp] theorem keep63_2 : X.keep 63 2 = some [4] := by kernel_rfl
@[simp] theorem keep64_0 : X.keep 64 0 = some [0, 1, 4] := by kernel_rfl
@[simp] theorem keep64_1 : X.keep 64 1 = some [0, 1, 4, 5] := by kernel_rfl
@[simp] theorem keep64_2 : X.keep 64 2 = some [0, 1, 4, 5, 6] := by kernel_rfl
@[simp] theorem keep64_3 : X.keep 64 3 = some [0, 1, 4, 5, 6, 13] := by kernel_rfl
@[simp] theorem keep64_4 : X.keep 64 4 = some [0, 1, 4, 5, 6] := by kernel_rfl
@[simp] theorem keep64_5 : X.keep 64 5 = some [0, 1, 4, 5, 6, 34] := by kernel_rfl
@[simp] theorem keep64_6 : X.keep 64 6 = some [0, 1, 4, 5, 6, 7] := by kernel_rfl
@[simp] theorem keep64_7 : X.keep 64 7 = some [0, 1, 4, 5, 6, 7] := by kernel_rfl
@[simp] theorem keep64_8 : X.keep 64 8 = some [0, 1, 4, 5, 6, 7] := by kernel_rfl
@[simp] theorem keep64_9 : X.keep 64 9 = some [0, 1, 4, 6, 7] := by kernel_rfl
@[simp] theorem keep64_10 : X.keep 64 10 = some [0, 1, 4, 6] := by kernel_rfl
@[simp] theorem keep64_11 : X.keep 64 11 = some [0, 1, 4, 5, 6] := by kernel_rfl
@[simp] theorem keep64_12 : X.keep 64 12 = some [0, 1, 4, 5, 6, 77] := by kernel_rfl
@[simp] theorem keep64_13 : X.keep 64 13 = some [0, 1, 4, 5, 6] := by kernel_rfl
@[simp] theorem keep64_14 : X.keep 64 14 = some [0, 1, 4, 5, 6] := by kernel_rfl
@[simp] theorem keep64_15 : X.keep 64 15 = some [0, 1, 4, 5, 6] := by kernel_rfl
@[simp] theorem keep64_16 : X.keep 64 16 = some [0, 1, 4, 5, 6, 98] := by kernel_rfl
@[simp] theorem keep64_17 : X.keep 64 17 = some [0, 1, 4, 6] := by kernel_rfl
@[simp] theorem keep64_18 : X.keep 64 18 = some [4, 6] := by kernel_rfl
@[simp] theorem keep64_19 : X.keep 64 19 = some [4] := by kernel_rfl
@[simp] theorem keep65_0 : X.keep 65 0 = some [0] := by kernel_rfl
@[simp] theorem keep65_1 : X.keep 65 1 = some [0, 10] := by kernel_rfl
@[simp] theorem keep65_2 : X.keep 65 2 = some [2] := by kernel_rfl
@[simp] theorem keep65_3 : X.keep 65 3 = some [0, 3, 4, 5] := by kernel_rfl
@[simp] theorem keep65_4 : X.keep 65 4 = some [0, 3, 4] := by kernel_rfl
@[simp] theorem keep65_5 : X.keep 65 5 = some [3] := by kernel_rfl
@[simp] theorem keep65_6 : X.keep 65 6 = some [2] := by kernel_rfl
@[simp] theorem keep66_0 : X.keep 66 0 = some [0] := by kernel_rfl
@[simp] theorem keep66_1 : X.keep 66 1 = some [0, 4] := by kernel_rfl
@[simp] theorem keep66_2 : X.keep 66 2 = some [2, 3] := by kernel_rfl
@[simp] theorem keep66_3 : X.keep 66 3 = some [0, 7] := by kernel_rfl
@[simp] theorem keep66_4 : X.keep 66 4 = some [2, 3] := by kernel_rfl
@[simp] theorem keep66_5 : X.keep 66 5 = some [10] := by kernel_rfl
@[simp] theorem keep66_6 : X.keep 66 6 = some [2, 3] := by kernel_rfl
@[simp] theorem keep66_7 : X.keep 66 7 = some [2, 3] := by kernel_rfl
@[simp] theorem keep67_0 : X.keep 67 0 = some [0, 1, 2] := by kernel_rfl
@[simp] theorem keep67_1 : X.keep 67 1 = some [0, 1, 2, 26] := by kernel_rfl
@[simp] theorem keep67_2 : X.keep 67 2 = some [6, 7] := by kernel_rfl
@[simp] theorem keep67_3 : X.keep 67 3 = some [1, 2, 8] := by kernel_rfl
@[simp] theorem keep67_4 : X.keep 67 4 = some [1, 8, 29, 30] := by kernel_rfl
@[simp] theorem keep67_5 : X.keep 67 5 = some [1, 8, 29, 30, 31] := by kernel_rfl
@[simp] theorem keep67_6 : X.keep 67 6 = some [1, 8, 9, 29, 30] := by kernel_rfl
@[simp] theorem keep67_7 : X.keep 67 7 = some [1, 8, 29, 30] := by kernel_rfl
@[simp] theorem keep67_8 : X.keep 67 8 = some [1, 8, 29, 30] := by kernel_rfl
@[simp] theorem keep67_9 : X.keep 67 9 = some [6, 7] := by kernel_rfl
@[simp] theorem keep68_0 : X.keep 68 0 = some [0] := by kernel_rfl
@[simp] theorem keep68_1 : X.keep 68 1 = some [0, 3] := by kernel_rfl
@[simp] theorem keep68_2 : X.keep 68 2 = some [0, 3, 9] := by kernel_rfl
@[simp] theorem keep68_3 : X.keep 68 3 = some [2] := by kernel_rfl
@[simp] theorem keep68_4 : X.keep 68 4 = some [0, 14] := by kernel_rfl
@[simp] theorem keep68_5 : X.keep 68 5 = some [0, 14, 15] := by kernel_rfl
@[simp] theorem keep68_6 : X.keep 68 6 = some [2] := by kernel_rfl
@[simp] theorem keep68_7 : X.keep 68 7 = some [0, 17] := by kernel_rfl
@[simp] theorem keep68_8 : X.keep 68 8 = some [2] := by kernel_rfl
@[simp] theorem keep68_9 : X.keep 68 9 = some [0, 3] := by kernel_rfl
@[simp] theorem keep68_10 : X.keep 68 10 = some [0, 3, 21] := by kernel_rfl
@[simp] theorem keep68_11 : X.keep 68 11 = some [2] := by kernel_rfl
@[simp] theorem keep68_12 : X.keep 68 12 = some [2] := by kernel_rfl
@[simp] theorem keep69_0 : X.keep 69 0 = some [0] := by kernel_rfl
@[simp] theorem keep69_1 : X.keep 69 1 = some [0, 4] := by kernel_rfl
@[simp] theorem keep69_2 : X.keep 69 2 = some [2] := by kernel_rfl
@[simp] theorem keep69_3 : X.keep 69 3 = some [0, 6] := by kernel_rfl
@[simp] theorem keep69_4 : X.keep 69 4 = some [2] := by kernel_rfl
@[simp] theorem keep69_5 : X.keep 69 5 = some [8] := by kernel_rfl
@[simp] theorem keep69_6 : X.keep 69 6 = some [2] := by kernel_rfl
@[simp] theorem keep69_7 : X.keep 69 7 = some [2] := by kernel_rfl
@[simp] theorem keep70_0 : X.keep 70 0 = some [0, 1] := by kernel_rfl
@[simp] theorem keep70_1 : X.keep 70 1 = some [0, 1, 13] := by kernel_rfl
@[simp] theorem keep70_2 : X.keep 70 2 = some [4, 5] := by kernel_rfl
@[simp] theorem keep70_3 : X.keep 70 3 = some [0, 1, 17] := by kernel_rfl
@[simp] theorem keep70_4 : X.keep 70 4 = some [4, 5] := by kernel_rfl
@[simp] theorem keep70_5 : X.keep 70 5 = some [0, 1, 6] := by kernel_rfl
@[simp] theorem keep70_6 : X.keep 70 6 = some [0, 1, 6, 7] := by kernel_rfl
@[simp] theorem keep70_7 : X.keep 70 7 = some [0, 1, 6, 7, 20] := by kernel_rfl
@[simp] theorem keep70_8 : X.keep 70 8 = some [0, 1, 6, 7] := by kernel_rfl
@[simp] theorem keep70_9 : X.keep 70 9 = some [0, 1, 6, 7] := by kernel_rfl
@[simp] theorem keep70_10 : X.keep 70 10 = some [4, 5] := by kernel_rfl
@[simp] theorem keep71_0 : X.keep 71 0 = some [0, 2, 4, 6] := by kernel_rfl
@[simp] theorem keep71_1 : X.keep 71 1 = some [0, 2, 4, 6] := by kernel_rfl
@[simp] theorem keep71_2 : X.keep 71 2 = some [0, 2, 4, 6] := by kernel_rfl
@[simp] theorem keep71_3 : X.keep 71 3 = some [0, 2, 4, 6] := by kernel_rfl
@[simp] theorem keep71_4 : X.keep 71 4 = some [0, 4, 6, 19] := by kernel_rfl
@[simp] theorem keep71_5 : X.keep 71 5 = some [4, 6] := by kernel_rfl
@[simp] theorem keep71_6 : X.keep 71 6 = some [6] := by kernel_rfl
@[simp] theorem keep72_0 : X.keep 72 0 = some [0] := by kernel_rfl
@[simp] theorem keep72_1 : X.keep 72 1 = some [0, 5, 6, 7] := by kernel_rfl
@[simp] theorem keep72_2 : X.keep 72 2 = some [0, 5, 6, 7, 15] := by kernel_rfl
@[simp] theorem keep72_3 : X.keep 72 3 = some [2, 3, 4] := by kernel_rfl
@[simp] theorem keep72_4 : X.keep 72 4 = some [0, 5, 6, 23] := by kernel_rfl
@[simp] theorem keep72_5 : X.keep 72 5 = some [2, 3, 4] := by kernel_rfl
@[simp] theorem keep72_6 : X.keep 72 6 = some [2, 3, 4] := by kernel_rfl
@[simp] theorem keep73_0 : X.keep 73 0 = some [0] := by kernel_rfl
@[simp] theorem keep73_1 : X.keep 73 1 = some [0, 10] := by kernel_rfl
@[simp] theorem keep73_2 : X.keep 73 2 = some [2, 3, 4] := by kernel_rfl
@[simp] theorem keep73_3 : X.keep 73 3 = some [0, 14] := by kernel_rfl
@[simp] theorem keep73_4 : X.keep 73 4 = some [2, 3, 4] := by kernel_rfl
@[simp] theorem keep73_5 : X.keep 73 5 = some [0, 28] := by kernel_rfl
@[simp] theorem keep73_6 : X.keep 73 6 = some [2, 3, 4] := by kernel_rfl
@[simp] theorem keep73_7 : X.keep 73 7 = some [0, 5] := by kernel_rfl
@[simp] theorem keep73_8 : X.keep 73 8 = some [0, 5, 37] := by kernel_rfl
@[simp] theorem keep73_9 : X.keep 73 9 = some [0, 5] := by kernel_rfl
@[simp] theorem keep73_10 : X.keep 73 10 = some [5, 6, 7] := by kernel_rfl
@[simp] theorem keep73_11 : X.keep 73 11 = some [5, 6, 7, 46] := by kernel_rfl
@[simp] theorem keep73_12 : X.keep 73 12 = some [2, 3, 4] := by kernel_rfl
@[simp] theorem keep73_13 : X.keep 73 13 = some [2, 3, 4] := by kernel_rfl
@[simp] theorem dy8_24 : X.dy 8 24 = false := by kernel_rfl
@[simp] theorem dy9_43 : X.dy 9 43 = true := by kernel_rfl
@[simp] theorem dy9_50 : X.dy 9 50 = true := by kernel_rfl
@[simp] theorem dy15_19 : X.dy 15 19 = true := by kernel_rfl
@[simp] theorem dy15_26 : X.dy 15 26 = true := by kernel_rfl
@[simp] theorem dy16_6 : X.dy 16 6 = false := by kernel_rfl
@[simp] theorem dy21_7 : X.dy 21 7 = true := by kernel_rfl
@[simp] theorem dy21_11 : X.dy 21 11 = true := by kernel_rfl
@[simp] theorem dy25_12 : X.dy 25 12 = false := by kernel_rfl
@[simp] theorem dy35_3 : X.dy 35 3 = true := by kernel_rfl
@[simp] theorem dy40_10 : X.dy 40 10 = true := by kernel_rfl
@[simp] theorem dy40_19 : X.dy 40 19 = true := by kernel_rfl
@[simp] theorem dy43_19 : X.dy 43 19 = false := by kernel_rfl
@[simp] theorem dy43_24 : X.dy 43 24 = true := by kernel_rfl
@[simp] theorem dy50_6 : X.dy 50 6 = true := by kernel_rfl
@[simp] theorem dy50_9 : X.dy 50 9 = true := by kernel_rfl
@[simp] theorem dy52_22 : X.dy 52 22 = true := by kernel_rfl
@[simp] theorem dy52_23 : X.dy 52 23 = true := by kernel_rfl
@[simp] theorem size0 : sizeT X 0 = 1 := by kernel_rfl
@[simp] theorem bytes0 : bytesT X 0 = 0 := by kernel_rfl
@[simp] theorem okT0 : okT X 0 = true := by kernel_rfl
@[simp] theorem isAgg0 : isAggT X 0 = false := by kernel_rfl
@[simp] theorem isInt0 : isIntT X 0 = false := by kernel_rfl
@[simp] theorem isArr0 : isArrT X 0 = false := by kernel_rfl
@[simp] theorem isU80 : isU8 X 0 = false := by kernel_rfl
@[simp] theorem zok0 : zeroOk X 0 = true := by kernel_rfl
@[simp] theorem und2 : und X 2 = .int .i64 := by kernel_rfl
@[simp] theorem size2 : sizeT X 2 = 1 := by kernel_rfl
@[simp] theorem bytes2 : bytesT X 2 = 8 := by kernel_rfl
@[simp] theorem okT2 : okT X 2 = true := by kernel_rfl
@[simp] theorem isAgg2 : isAggT X 2 = false := by kernel_rfl
@[simp] theorem isInt2 : isIntT X 2 = true := by kernel_rfl
@[simp] theorem isArr2 : isArrT X 2 = false := by kernel_rfl
@[simp] theorem isU82 : isU8 X 2 = false := by kernel_rfl
@[simp] theorem zok2 : zeroOk X 2 = true := by kernel_rfl
@[simp] theorem zero2 : zeroAV X 2 = .int .i64 0 := by kernel_rfl
@[simp] theorem und3 : und X 3 = .int .i64 := by kernel_rfl
@[simp] theorem size3 : sizeT X 3 = 1 := by kernel_rfl
@[simp] theorem bytes3 : bytesT X 3 = 8 := by kernel_rfl
@[simp] theorem okT3 : okT X 3 = true := by kernel_rfl
@[simp] theorem isAgg3 : isAggT X 3 = false := by kernel_rfl
@[simp] theorem isInt3 : isIntT X 3 = true := by kernel_rfl
@[simp] theorem isArr3 : isArrT X 3 = false := by kernel_rfl
@[simp] theorem isU83 : isU8 X 3 = false := by kernel_rfl
@[simp] theorem zok3 : zeroOk X 3 = true := by kernel_rfl
@[simp] theorem zero3 : zeroAV X 3 = .int .i64 0 := by kernel_rfl
@[simp] theorem und4 : und X 4 = .bool := by kernel_rfl
@[simp] theorem size4 : sizeT X 4 = 1 := by kernel_rfl
@[simp] theorem bytes4 : bytesT X 4 = 1 := by kernel_rfl
@[simp] theorem okT4 : okT X 4 = true := by kernel_rfl
@[simp] theorem isAgg4 : isAggT X 4 = false := by kernel_rfl
@[simp] theorem isInt4 : isIntT X 4 = false := by kernel_rfl
@[simp] theorem isArr4 : isArrT X 4 = false := by kernel_rfl
@[simp] theorem isU84 : isU8 X 4 = false := by kernel_rfl
@[simp] theorem zok4 : zeroOk X 4 = true := by kernel_rfl
@[simp] theorem zero4 : zeroAV X 4 = .bool false := by kernel_rfl
@[simp] theorem und5 : und X 5 = .int .u8 := by kernel_rfl
@[simp] theorem size5 : sizeT X 5 = 1 := by kernel_rfl
@[simp] theorem bytes5 : bytesT X 5 = 1 := by kernel_rfl
@[simp] theorem okT5 : okT X 5 = true := by kernel_rfl
@[simp] theorem isAgg5 : isAggT X 5 = false := by kernel_rfl
@[simp] theorem isInt5 : isIntT X 5 = true := by kernel_rfl
@[simp] theorem isArr5 : isArrT X 5 = false := by kernel_rfl
@[simp] theorem isU85 : isU8 X 5 = true := by kernel_rfl
@[simp] theorem zok5 : zeroOk X 5 = true := by kernel_rfl
@[simp] theorem zero5 : zeroAV X 5 = .int .u8 0 := by kernel_rfl
@[simp] theorem und9 : und X 9 = .string := by kernel_rfl
@[simp] theorem size9 : sizeT X 9 = 1 := by kernel_rfl
@[simp] theorem bytes9 : bytesT X 9 = 16 := by kernel_rfl
@[simp] theorem okT9 : okT X 9 = true := by kernel_rfl
@[simp] theorem isAgg9 : isAggT X 9 = false := by kernel_rfl
@[simp] theorem isInt9 : isIntT X 9 = false := by kernel_rfl
@[simp] theorem isArr9 : isArrT X 9 = false := by kernel_rfl
@[simp] theorem isU89 : isU8 X 9 = false := by kernel_rfl
@[simp] theorem zok9 : zeroOk X 9 = true := by kernel_rfl
@[simp] theorem zero9 : zeroAV X 9 = .str [] := by kernel_rfl
@[simp] theorem und22 : und X 22 = .slice 5 := by kernel_rfl
@[simp] theorem size22 : sizeT X 22 = 1 := by kernel_rfl
@[simp] theorem bytes22 : bytesT X 22 = 24 := by kernel_rfl
@[simp] theorem okT22 : okT X 22 = true := by kernel_rfl
@[simp] theorem isAgg22 : isAggT X 22 = false := by kernel_rfl
@[simp] theorem isInt22 : isIntT X 22 = false := by kernel_rfl
@[simp] theorem isArr22 : isArrT X 22 = false := by kernel_rfl
@[simp] theorem isU822 : isU8 X 22 = false := by kernel_rfl
@[simp] theorem zok22 : zeroOk X 22 = true := by kernel_rfl
@[simp] theorem zero22 : zeroAV X 22 = .ro 0 .pn 0 := by kernel_rfl
@[simp] theorem und23 : und X 23 = .int .i64 := by kernel_rfl
@[simp] theorem size23 : sizeT X 23 = 1 := by kernel_rfl
@[simp] theorem bytes23 : bytesT X 23 = 8 := by kernel_rfl
@[simp] theorem okT23 : okT X 23 = true := by kernel_rfl
@[simp] theorem isAgg23 : isAggT X 23 = false := by kernel_rfl
@[simp] theorem isInt23 : isIntT X 23 = true := by kernel_rfl
@[simp] theorem isArr23 : isArrT X 23 = false := by kernel_rfl
@[simp] theorem isU823 : isU8 X 23 = false := by kernel_rfl
@[simp] theorem zok23 : zeroOk X 23 = true := by kernel_rfl
@[simp] theorem zero23 : zeroAV X 23 = .int .i64 0 := by kernel_rfl
@[simp] theorem size24 : sizeT X 24 = 1 := by kernel_rfl
@[simp] theorem bytes24 : bytesT X 24 = 0 := by kernel_rfl
@[simp] theorem okT24 : okT X 24 = true := by kernel_rfl
@[simp] theorem isAgg24 : isAggT X 24 = false := by kernel_rfl
@[simp] theorem isInt24 : isIntT X 24 = false := by kernel_rfl
@[simp] theorem isArr24 : isArrT X 24 = false := by kernel_rfl
@[simp] theorem isU824 : isU8 X 24 = false := by kernel_rfl
@[simp] theorem zok24 : zeroOk X 24 = true := by kernel_rfl
@[simp] theorem size27 : sizeT X 27 = 2 := by kernel_rfl
@[simp] theorem bytes27 : bytesT X 27 = 2 := by kernel_rfl
@[simp] theorem okT27 : okT X 27 = true := by kernel_rfl
@[simp] theorem isAgg27 : isAggT X 27 = true := by kernel_rfl
@[simp] theorem isInt27 : isIntT X 27 = false := by kernel_rfl
@[simp] theorem isArr27 : isArrT X 27 = false := by kernel_rfl
@[simp] theorem isU827 : isU8 X 27 = false := by kernel_rfl
@[simp] theorem zok27 : zeroOk X 27 = true := by kernel_rfl
@[simp] theorem zero27 : zeroAV X 27 = .agg (.pc [.int .u8 0, .bool false]) := by kernel_rfl
@[simp] theorem und28 : und X 28 = .int .u64 := by kernel_rfl
@[simp] theorem size28 : sizeT X 28 = 1 := by kernel_rfl
@[simp] theorem bytes28 : bytesT X 28 = 8 := by kernel_rfl
@[simp] theorem okT28 : okT X 28 = true := by kernel_rfl
@[simp] theorem isAgg28 : isAggT X 28 = false := by kernel_rfl
@[simp] theorem isInt28 : isIntT X 28 = true := by kernel_rfl
@[simp] theorem isArr28 : isArrT X 28 = false := by kernel_rfl
@[simp] theorem isU828 : isU8 X 28 = false := by kernel_rfl
@[simp] theorem zok28 : zeroOk X 28 = true := by kernel_rfl
@[simp] theorem zero28 : zeroAV X 28 = .int .u64 0 := by kernel_rfl
@[simp] theorem size30 : sizeT X 30 = 8 := by kernel_rfl
@[simp] theorem bytes30 : bytesT X 30 = 64 := by kernel_rfl
@[simp] theorem okT30 : okT X 30 = true := by kernel_rfl
@[simp] theorem isAgg30 : isAggT X 30 = true := by kernel_rfl
@[simp] theorem isInt30 : isIntT X 30 = false := by kernel_rfl
@[simp] theorem isArr30 : isArrT X 30 = false := by kernel_rfl
@[simp] theorem isU830 : isU8 X 30 = false := by kernel_rfl
@[simp] theorem zok30 : zeroOk X 30 = true := by kernel_rfl
@[simp] theorem zero30 : zeroAV X 30 = .agg (.pc [.bool false, .int .i64 0, .int .i64 0, .int .i64 0, .int .i64 0, .int .i64 0, .int .i64 0, .int .i64 0]) := by kernel_rfl
@[simp] theorem size32 : sizeT X 32 = 12 := by kernel_rfl
@[simp] theorem bytes32 : bytesT X 32 = 104 := by kernel_rfl
@[simp] theorem okT32 : okT X 32 = true := by kernel_rfl
@[simp] theorem isAgg32 : isAggT X 32 = true := by kernel_rfl
@[simp] theorem isInt32 : isIntT X 32 = false := by kernel_rfl
@[simp] theorem isArr32 : isArrT X 32 = false := by kernel_rfl
@[simp] theorem isU832 : isU8 X 32 = false := by kernel_rfl
@[simp] theorem zok32 : zeroOk X 32 = true := by kernel_rfl
@[simp] theorem zero32 : zeroAV X 32 = .agg (.pc [.int .i64 0, .int .i64 0, .int .u64 0, .str [], .bool false, .int .i64 0, .int .i64 0, .int .i64 0, .int .i64 0, .int .i64 0, .int .i64 0, .int .i64 0]) := by kernel_rfl
@[simp] theorem size34 : sizeT X 34 = 15 := by kernel_rfl
@[simp] theorem bytes34 : bytesT X 34 = 112 := by kernel_rfl
@[simp] theorem okT34 : okT X 34 = true := by kernel_rfl
@[simp] theorem isAgg34 : isAggT X 34 = true := by kernel_rfl
@[simp] theorem isInt34 : isIntT X 34 = false := by kernel_rfl
@[simp] theorem isArr34 : isArrT X 34 = false := by kernel_rfl
@[simp] theorem isU834 : isU8 X 34 = false := by kernel_rfl
@[simp] theorem zok34 : zeroOk X 34 = true := by kernel_rfl
@[simp] theorem zero34 : zeroAV X 34 = .agg (.pc [.int .u8 0, .bool false, .bool false, .int .i64 0, .int .i64 0, .int .u64 0, .str [], .bool false, .int .i64 0, .int .i64 0, .int .i64 0, .int .i64 0, .int .i64 0, .int .i64 0, .int .i64 0]) := by kernel_rfl
@[simp] theorem und35 : und X 35 = .slice 34 := by kernel_rfl
@[simp] theorem size35 : sizeT X 35 = 1 := by kernel_rfl
@[simp] theorem bytes35 : bytesT X 35 = 24 := by kernel_rfl
@[simp] theorem okT35 : okT X 35 = true := by kernel_rfl
@[simp] theorem isAgg35 : isAggT X 35 = false := by kernel_rfl
@[simp] theorem isInt35 : isIntT X 35 = false := by kernel_rfl
@[simp] theorem isArr35 : isArrT X 35 = false := by kernel_rfl
@[simp] theorem isU835 : isU8 X 35 = false := by kernel_rfl
@[simp] theorem zok35 : zeroOk X 35 = true := by kernel_rfl
@[simp] theorem zero35 : zeroAV X 35 = .ro 0 .pn 0 := by kernel_rfl
@[simp] theorem size36 : sizeT X 36 = 1 := by kernel_rfl
@[simp] theorem bytes36 : bytesT X 36 = 0 := by kernel_rfl
@[simp] theorem okT36 : okT X 36 = true := by kernel_rfl
@[simp] theorem isAgg36 : isAggT X 36 = false := by kernel_rfl
@[simp] theorem isInt36 : isIntT X 36 = false := by kernel_rfl
@[simp] theorem isArr36 : isArrT X 36 = false := by kernel_rfl
@[simp] theorem isU836 : isU8 X 36 = false := by kernel_rfl
@[simp] theorem zok36 : zeroOk X 36 = true := by kernel_rfl
@[simp] theorem und43 : und X 43 = .slice 27 := by kernel_rfl
@[simp] theorem size43 : sizeT X 43 = 1 := by kernel_rfl
@[simp] theorem bytes43 : bytesT X 43 = 24 := by kernel_rfl
@[simp] theorem okT43 : okT X 43 = true := by kernel_rfl
@[simp] theorem isAgg43 : isAggT X 43 = false := by kernel_rfl
@[simp] theorem isInt43 : isIntT X 43 = false := by kernel_rfl
@[simp] theorem isArr43 : isArrT X 43 = false := by kernel_rfl
@[simp] theorem isU843 : isU8 X 43 = false := by kernel_rfl
@[simp] theorem zok43 : zeroOk X 43 = true := by kernel_rfl
@[simp] theorem zero43 : zeroAV X 43 = .ro 0 .pn 0 := by kernel_rfl
@[simp] theorem und44 : und X 44 = .slice 4 := by kernel_rfl
@[simp] theorem size44 : sizeT X 44 = 1 := by kernel_rfl
@[simp] theorem bytes44 : bytesT X 44 = 24 := by kernel_rfl
@[simp] theorem okT44 : okT X 44 = true := by kernel_rfl
@[simp] theorem isAgg44 : isAggT X 44 = false := by kernel_rfl
@[simp] theorem isInt44 : isIntT X 44 = false := by kernel_rfl
@[simp] theorem isArr44 : isArrT X 44 = false := by kernel_rfl
@[simp] theorem isU844 : isU8 X 44 = false := by kernel_rfl
@[simp] theorem zok44 : zeroOk X 44 = true := by kernel_rfl
@[simp] theorem zero44 : zeroAV X 44 = .ro 0 .pn 0 := by kernel_rfl
@[simp] theorem size47 : sizeT X 47 = 1 := by kernel_rfl
@[simp] theorem bytes47 : bytesT X 47 = 8 := by kernel_rfl
@[simp] theorem okT47 : okT X 47 = true := by kernel_rfl
@[simp] theorem isAgg47 : isAggT X 47 = false := by kernel_rfl
@[simp] theorem isInt47 : isIntT X 47 = false := by kernel_rfl
@[simp] theorem isArr47 : isArrT X 47 = false := by kernel_rfl
@[simp] theorem isU847 : isU8 X 47 = false := by kernel_rfl
@[simp] theorem zok47 : zeroOk X 47 = true := by kernel_rfl
@[simp] theorem zero47 : zeroAV X 47 = .nilfn := by kernel_rfl
@[simp] theorem size52 : sizeT X 52 = 1 := by kernel_rfl
@[simp] theorem bytes52 : bytesT X 52 = 8 := by kernel_rfl
@[simp] theorem okT52 : okT X 52 = true := by kernel_rfl
@[simp] theorem isAgg52 : isAggT X 52 = false := by kernel_rfl
@[simp] theorem isInt52 : isIntT X 52 = false := by kernel_rfl
@[simp] theorem isArr52 : isArrT X 52 = false := by kernel_rfl
@[simp] theorem isU852 : isU8 X 52 = false := by kernel_rfl
@[simp] theorem zok52 : zeroOk X 52 = true := by kernel_rfl
@[simp] theorem zero52 : zeroAV X 52 = .nilfn := by kernel_rfl
@[simp] theorem size54 : sizeT X 54 = 1 := by kernel_rfl
@[simp] theorem bytes54 : bytesT X 54 = 0 := by kernel_rfl
@[simp] theorem okT54 : okT X 54 = true := by kernel_rfl
@[simp] theorem isAgg54 : isAggT X 54 = false := by kernel_rfl
@[simp] theorem isInt54 : isIntT X 54 = false := by kernel_rfl
@[simp] theorem isArr54 : isArrT X 54 = false := by kernel_rfl
@[simp] theorem isU854 : isU8 X 54 = false := by kernel_rfl
@[simp] theorem zok54 : zeroOk X 54 = true := by kernel_rfl
@[simp] theorem size56 : sizeT X 56 = 1 := by kernel_rfl
@[simp] theorem bytes56 : bytesT X 56 = 0 := by kernel_rfl
@[simp] theorem okT56 : okT X 56 = true := by kernel_rfl
@[simp] theorem isAgg56 : isAggT X 56 = false := by kernel_rfl
@[simp] theorem isInt56 : isIntT X 56 = false := by kernel_rfl
@[simp] theorem isArr56 : isArrT X 56 = false := by kernel_rfl
@[simp] theorem isU856 : isU8 X 56 = false := by kernel_rfl
@[simp] theorem zok56 : zeroOk X 56 = true := by kernel_rfl
@[simp] theorem und58 : und X 58 = .int .u64 := by kernel_rfl
@[simp] theorem size58 : sizeT X 58 = 1 := by kernel_rfl
@[simp] theorem bytes58 : bytesT X 58 = 8 := by kernel_rfl
@[simp] theorem okT58 : okT X 58 = true := by kernel_rfl
@[simp] theorem isAgg58 : isAggT X 58 = false := by kernel_rfl
@[simp] theorem isInt58 : isIntT X 58 = true := by kernel_rfl
@[simp] theorem isArr58 : isArrT X 58 = false := by kernel_rfl
@[simp] theorem isU858 : isU8 X 58 = false := by kernel_rfl
@[simp] theorem zok58 : zeroOk X 58 = true := by kernel_rfl
@[simp] theorem zero58 : zeroAV X 58 = .int .u64 0 := by kernel_rfl
@[simp] theorem und59 : und X 59 = .pointer 61 := by kernel_rfl
@[simp] theorem size59 : sizeT X 59 = 1 := by kernel_rfl
@[simp] theorem bytes59 : bytesT X 59 = 8 := by kernel_rfl
@[simp] theorem okT59 : okT X 59 = true := by kernel_rfl
@[simp] theorem isAgg59 : isAggT X 59 = false := by kernel_rfl
@[simp] theorem isInt59 : isIntT X 59 = false := by kernel_rfl
@[simp] theorem isArr59 : isArrT X 59 = false := by kernel_rfl
@[simp] theorem isU859 : isU8 X 59 = false := by kernel_rfl
@[simp] theorem zok59 : zeroOk X 59 = true := by kernel_rfl
@[simp] theorem zero59 : zeroAV X 59 = .nilptr := by kernel_rfl
@[simp] theorem size61 : sizeT X 61 = 2 := by kernel_rfl
@[simp] theorem bytes61 : bytesT X 61 = 32 := by kernel_rfl
@[simp] theorem okT61 : okT X 61 = true := by kernel_rfl
@[simp] theorem isAgg61 : isAggT X 61 = true := by kernel_rfl
@[simp] theorem isInt61 : isIntT X 61 = false := by kernel_rfl
@[simp] theorem isArr61 : isArrT X 61 = false := by kernel_rfl
@[simp] theorem isU861 : isU8 X 61 = false := by kernel_rfl
@[simp] theorem zok61 : zeroOk X 61 = true := by kernel_rfl
@[simp] theorem zero61 : zeroAV X 61 = .agg (.pc [.ro 0 .pn 0, .int .i64 0]) := by kernel_rfl
@[simp] theorem und75 : und X 75 = .array 256 9 := by kernel_rfl
@[simp] theorem size75 : sizeT X 75 = 256 := by kernel_rfl
@[simp] theorem bytes75 : bytesT X 75 = 4096 := by kernel_rfl
@[simp] theorem okT75 : okT X 75 = true := by kernel_rfl
@[simp] theorem isAgg75 : isAggT X 75 = true := by kernel_rfl
@[simp] theorem isInt75 : isIntT X 75 = false := by kernel_rfl
@[simp] theorem isArr75 : isArrT X 75 = true := by kernel_rfl
@[simp] theorem isU875 : isU8 X 75 = false := by kernel_rfl
@[simp] theorem zok75 : zeroOk X 75 = true := by kernel_rfl
@[simp] theorem zero75 : zeroAV X 75 = .agg (.pc [.str [], .str [], .str [], .str [], .str [], .str [], .str [], .str [], .str [], .str [], .str [], .str [], .str [], .str [], .str [], .str [], .str [], .str [], .str [], .str [], .str [], .str [], .str [], .str [], .str [], .str [], .str [], .str [], .str [], .str [], .str [], .str [], .str [], .str [], .str [], .str [], .str [], .str [], .str [], .str [], .str [], .str [], .str [], .str [], .str [], .str [], .str [], .str [], .str [], .str [], .str [], .str [], .str [], .str [], .str [], .str [], .str [], .str [], .str [], .str [], .str [], .str [], .str [], .str [], .str [], .str [], .str [], .str [], .str [], .str [], .str [], .str [], .str [], .str [], .str [], .str [], .str [], .str [], .str [], .str [], .str [], .str [], .str [], .str [], .str [], .str [], .str [], .str [], .str [], .str [], .str [], .str [], .str [], .str [], .str [], .str [], .str [], .str [], .str [], .str [], .str [], .str [], .str [], .str [], .str [], .str [], .str [], .str [], .str [], .str [], .str [], .str [], .str [], .str [], .str [], .str [], .str [], .str [], .str [], .str [], .str [], .str [], .str [], .str [], .str [], .str [], .str [], .str [], .str [], .str [], .str [], .str [], .str [], .str [], .str [], .str [], .str [], .str [], .str [], .str [], .str [], .str [], .str [], .str [], .str [], .str [], .str [], .str [], .str [], .str [], .str [], .str [], .str [], .str [], .str [], .str [], .str [], .str [], .str [], .str [], .str [], .str [], .str [], .str [], .str [], .str [], .str [], .str [], .str [], .str [], .str [], .str [], .str [], .str [], .str [], .str [], .str [], .str [], .str [], .str [], .str [], .str [], .str [], .str [], .str [], .str [], .str [], .str [], .str [], .str [], .str [], .str [], .str [], .str [], .str [], .str [], .str [], .str [], .str [], .str [], .str [], .str [], .str [], .str [], .str [], .str [], .str [], .str [], .str [], .str [], .str [], .str [], .str [], .str [], .str [], .str [], .str [], .str [], .str [], .str [], .str [], .str [], .str [], .str [], .str [], .str [], .str [], .str [], .str [], .str [], .str [], .str [], .str [], .str [], .str [], .str [], .str [], .str [], .str [], .str [], .str [], .str [], .str [], .str [], .str [], .str [], .str [], .str [], .str [], .str [], .str [], .str [], .str [], .str [], .str [], .str []]) := by kernel_rfl
@[simp] theorem size77 : sizeT X 77 = 1 := by kernel_rfl
@[simp] theorem bytes77 : bytesT X 77 = 0 := by kernel_rfl
@[simp] theorem okT77 : okT X 77 = true := by kernel_rfl
@[simp] theorem isAgg77 : isAggT X 77 = false := by kernel_rfl
@[simp] theorem isInt77 : isIntT X 77 = false := by kernel_rfl
@[simp] theorem isArr77 : isArrT X 77 = false := by kernel_rfl
@[simp] theorem isU877 : isU8 X 77 = false := by kernel_rfl
@[simp] theorem zok77 : zeroOk X 77 = true := by kernel_rfl
@[simp] theorem size79 : sizeT X 79 = 1 := by kernel_rfl
@[simp] theorem bytes79 : bytesT X 79 = 0 := by kernel_rfl
@[simp] theorem okT79 : okT X 79 = true := by kernel_rfl
@[simp] theorem isAgg79 : isAggT X 79 = false := by kernel_rfl
@[simp] theorem isInt79 : isIntT X 79 = false := by kernel_rfl
@[simp] theorem isArr79 : isArrT X 79 = false := by kernel_rfl
@[simp] theorem isU879 : isU8 X 79 = false := by kernel_rfl
@[simp] theorem zok79 : zeroOk X 79 = true := by kernel_rfl
@[simp] theorem size81 : sizeT X 81 = 1 := by kernel_rfl
@[simp] theorem bytes81 : bytesT X 81 = 0 := by kernel_rfl
@[simp] theorem okT81 : okT X 81 = true := by kernel_rfl
@[simp] theorem isAgg81 : isAggT X 81 = false := by kernel_rfl
@[simp] theorem isInt81 : isIntT X 81 = false := by kernel_rfl
@[simp] theorem isArr81 : isArrT X 81 = false := by kernel_rfl
@[simp] theorem isU881 : isU8 X 81 = false := by kernel_rfl
@[simp] theorem zok81 : zeroOk X 81 = true := by kernel_rfl
@[simp] theorem und86 : und X 86 = .slice 3 := by kernel_rfl
@[simp] theorem size86 : sizeT X 86 = 1 := by kernel_rfl
@[simp] theorem bytes86 : bytesT X 86 = 24 := by kernel_rfl
@[simp] theorem okT86 : okT X 86 = true := by kernel_rfl
@[simp] theorem isAgg86 : isAggT X 86 = false := by kernel_rfl
@[simp] theorem isInt86 : isIntT X 86 = false := by kernel_rfl
@[simp] theorem isArr86 : isArrT X 86 = false := by kernel_rfl
@[simp] theorem isU886 : isU8 X 86 = false := by kernel_rfl
@[simp] theorem zok86 : zeroOk X 86 = true := by kernel_rfl
@[simp] theorem zero86 : zeroAV X 86 = .ro 0 .pn 0 := by kernel_rfl
@[simp] theorem size87 : sizeT X 87 = 1 := by kernel_rfl
@[simp] theorem bytes87 : bytesT X 87 = 0 := by kernel_rfl
@[simp] theorem okT87 : okT X 87 = true := by kernel_rfl
@[simp] theorem isAgg87 : isAggT X 87 = false := by kernel_rfl
@[simp] theorem isInt87 : isIntT X 87 = false := by kernel_rfl
@[simp] theorem isArr87 : isArrT X 87 = false := by kernel_rfl
@[simp] theorem isU887 : isU8 X 87 = false := by kernel_rfl
@[simp] theorem zok87 : zeroOk X 87 = true := by kernel_rfl
@[simp] theorem size93 : sizeT X 93 = 1 := by kernel_rfl
@[simp] theorem bytes93 : bytesT X 93 = 0 := by kernel_rfl
@[simp] theorem okT93 : okT X 93 = true := by kernel_rfl
@[simp] theorem isAgg93 : isAggT X 93 = false := by kernel_rfl
@[simp] theorem isInt93 : isIntT X 93 = false := by kernel_rfl
@[simp] theorem isArr93 : isArrT X 93 = false := by kernel_rfl
@[simp] theorem isU893 : isU8 X 93 = false := by kernel_rfl
@[simp] theorem zok93 : zeroOk X 93 = true := by kernel_rfl
@[simp] theorem und98 : und X 98 = .slice 9 := by kernel_rfl
@[simp] theorem size98 : sizeT X 98 = 1 := by kernel_rfl
@[simp] theorem bytes98 : bytesT X 98 = 24 := by kernel_rfl
@[simp] theorem okT98 : okT X 98 = true := by kernel_rfl
@[simp] theorem isAgg98 : isAggT X 98 = false := by kernel_rfl
@[simp] theorem isInt98 : isIntT X 98 = false := by kernel_rfl
@[simp] theorem isArr98 : isArrT X 98 = false := by kernel_rfl
@[simp] theorem isU898 : isU8 X 98 = false := by kernel_rfl
@[simp] theorem zok98 : zeroOk X 98 = true := by kernel_rfl
@[simp] theorem zero98 : zeroAV X 98 = .ro 0 .pn 0 := by kernel_rfl
@[simp] theorem fa27_0 (H : AM.Heap) (x : AV) : fieldAddrV X H 27 x 0 = faV H x 0 := fieldAddr_of (ty := 5) (by kernel_rfl) (by kernel_rfl) H x
@[simp] theorem fv27_0 (x : AV) : fieldV X 27 x 0 = fvV X x 0 5 := field_of (by kernel_rfl) x
@[simp] theorem fa27_1 (H : AM.Heap) (x : AV) : fieldAddrV X H 27 x 1 = faV H x 1 := fieldAddr_of (ty := 4) (by kernel_rfl) (by kernel_rfl) H x
@[simp] theorem fv27_1 (x : AV) : fieldV X 27 x 1 = fvV X x 1 4 := field_of (by kernel_rfl) x
@[simp] theorem fa30_0 (H : AM.Heap) (x : AV) : fieldAddrV X H 30 x 0 = faV H x 0 := fieldAddr_of (ty := 4) (by kernel_rfl) (by kernel_rfl) H x
@[simp] theorem fv30_0 (x : AV) : fieldV X 30 x 0 = fvV X x 0 4 := field_of (by kernel_rfl) x
@[simp] theorem fa30_1 (H : AM.Heap) (x : AV) : fieldAddrV X H 30 x 1 = faV H x 1 := fieldAddr_of (ty := 3) (by kernel_rfl) (by kernel_rfl) H x
@[simp] theorem fv30_1 (x : AV) : fieldV X 30 x 1 = fvV X x 1 3 := field_of (by kernel_rfl) x
@[simp] theorem fa30_2 (H : AM.Heap) (x : AV) : fieldAddrV X H 30 x 2 = faV H x 2 := fieldAddr_of (ty := 3) (by kernel_rfl) (by kernel_rfl) H x
@[simp] theorem fv30_2 (x : AV) : fieldV X 30 x 2 = fvV X x 2 3 := field_of (by kernel_rfl) x
@[simp] theorem fa30_3 (H : AM.Heap) (x : AV) : fieldAddrV X H 30 x 3 = faV H x 3 := fieldAddr_of (ty := 3) (by kernel_rfl) (by kernel_rfl) H x
@[simp] theorem fv30_3 (x : AV) : fieldV X 30 x 3 = fvV X x 3 3 := field_of (by kernel_rfl) x
@[simp] theorem fa30_4 (H : AM.Heap) (x : AV) : fieldAddrV X H 30 x 4 = faV H x 4 := fieldAddr_of (ty := 3) (by kernel_rfl) (by kernel_rfl) H x
@[simp] theorem fv30_4 (x : AV) : fieldV X 30 x 4 = fvV X x 4 3 := field_of (by kernel_rfl) x
@[simp] theorem fa30_5 (H : AM.Heap) (x : AV) : fieldAddrV X H 30 x 5 = faV H x 5 := fieldAddr_of (ty := 3) (by kernel_rfl) (by kernel_rfl) H x
@[simp] theorem fv30_5 (x : AV) : fieldV X 30 x 5 = fvV X x 5 3 := field_of (by kernel_rfl) x
@[simp] theorem fa30_6 (H : AM.Heap) (x : AV) : fieldAddrV X H 30 x 6 = faV H x 6 := fieldAddr_of (ty := 3) (by kernel_rfl) (by kernel_rfl) H x
@[simp] theorem fv30_6 (x : AV) : fieldV X 30 x 6 = fvV X x 6 3 := field_of (by kernel_rfl) x
@[simp] theorem fa30_7 (H : AM.Heap) (x : AV) : fieldAddrV X H 30 x 7 = faV H x 7 := fieldAddr_of (ty := 3) (by kernel_rfl) (by kernel_rfl) H x
@[simp] theorem fv30_7 (x : AV) : fieldV X 30 x 7 = fvV X x 7 3 := field_of (by kernel_rfl) x
@[simp] theorem fa32_0 (H : AM.Heap) (x : AV) : fieldAddrV X H 32 x 0 = faV H x 0 := fieldAddr_of (ty := 3) (by kernel_rfl) (by kernel_rfl) H x
@[simp] theorem fv32_0 (x : AV) : fieldV X 32 x 0 = fvV X x 0 3 := field_of (by kernel_rfl) x
@[simp] theorem fa32_1 (H : AM.Heap) (x : AV) : fieldAddrV X H 32 x 1 = faV H x 1 := fieldAddr_of (ty := 2) (by kernel_rfl) (by kernel_rfl) H x
@[simp] theorem fv32_1 (x : AV) : fieldV X 32 x 1 = fvV X x 1 2 := field_of (by kernel_rfl) x
@[simp] theorem fa32_2 (H : AM.Heap) (x : AV) : fieldAddrV X H 32 x 2 = faV H x 2 := fieldAddr_of (ty := 28) (by kernel_rfl) (by kernel_rfl) H x
@[simp] theorem fv32_2 (x : AV) : fieldV X 32 x 2 = fvV X x 2 28 := field_of (by kernel_rfl) x
@[simp] theorem fa32_3 (H : AM.Heap) (x : AV) : fieldAddrV X H 32 x 3 = faV H x 3 := fieldAddr_of (ty := 9) (by kernel_rfl) (by kernel_rfl) H x
@[simp] theorem fv32_3 (x : AV) : fieldV X 32 x 3 = fvV X x 3 9 := field_of (by kernel_rfl) x
@[simp] theorem fa32_4 (H : AM.Heap) (x : AV) : fieldAddrV X H 32 x 4 = faV H x 4 := fieldAddr_of (ty := 30) (by kernel_rfl) (by kernel_rfl) H x
@[simp] theorem fv32_4 (x : AV) : fieldV X 32 x 4 = fvV X x 4 30 := field_of (by kernel_rfl) x
@[simp] theorem fa34_0 (H : AM.Heap) (x : AV) : fieldAddrV X H 34 x 0 = faV H x 0 := fieldAddr_of (ty := 27) (by kernel_rfl) (by kernel_rfl) H x
@[simp] theorem fv34_0 (x : AV) : fieldV X 34 x 0 = fvV X x 0 27 := field_of (by kernel_rfl) x
@[simp] theorem fa34_1 (H : AM.Heap) (x : AV) : fieldAddrV X H 34 x 1 = faV H x 2 := fieldAddr_of (ty := 4) (by kernel_rfl) (by kernel_rfl) H x
@[simp] theorem fv34_1 (x : AV) : fieldV X 34 x 1 = fvV X x 2 4 := field_of (by kernel_rfl) x
@[simp] theorem fa34_2 (H : AM.Heap) (x : AV) : fieldAddrV X H 34 x 2 = faV H x 3 := fieldAddr_of (ty := 32) (by kernel_rfl) (by kernel_rfl) H x
@[simp] theorem fv34_2 (x : AV) : fieldV X 34 x 2 = fvV X x 3 32 := field_of (by kernel_rfl) x
@[simp] theorem fa61_0 (H : AM.Heap) (x : AV) : fieldAddrV X H 61 x 0 = faV H x 0 := fieldAddr_of (ty := 22) (by kernel_rfl) (by kernel_rfl) H x
@[simp] theorem fv61_0 (x : AV) : fieldV X 61 x 0 = fvV X x 0 22 := field_of (by kernel_rfl) x
@[simp] theorem fa61_1 (H : AM.Heap) (x : AV) : fieldAddrV X H 61 x 1 = faV H x 1 := fieldAddr_of (ty := 23) (by kernel_rfl) (by kernel_rfl) H x
@[simp] theorem fv61_1 (x : AV) : fieldV X 61 x 1 = fvV X x 1 23 := field_of (by kernel_rfl) x

end Go.Proofs.Ytbmddnokokoofaa
