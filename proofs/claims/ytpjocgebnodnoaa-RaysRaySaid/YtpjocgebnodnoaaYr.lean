/- Rays: tables that the kernel looks through; the laws RaysRay, RaysBack, RaysNil. -/
import Derived.Test.YtpjocgebnodnoaaYq
namespace Go.Proofs.Ytpjocgebnodnoaa
open Go.RowKit
set_option linter.unusedVariables false
set_option linter.unusedSimpArgs false
set_option maxRecDepth 100000
def tP : List (List (List Nat)) := [[[9]], [[10], [8]], [[11], [9]], [[12], [10]], [[13], [11]], [[14], [12]], [[15], [13]], [[14]], [[17]], [[18], [16]], [[19], [17]], [[20], [18]], [[21], [19]], [[22], [20]], [[23], [21]], [[22]], [[25]], [[26], [24]], [[27], [25]], [[28], [26]], [[29], [27]], [[30], [28]], [[31], [29]], [[30]], [[33]], [[34], [32]], [[35], [33]], [[36], [34]], [[37], [35]], [[38], [36]], [[39], [37]], [[38]], [[41]], [[42], [40]], [[43], [41]], [[44], [42]], [[45], [43]], [[46], [44]], [[47], [45]], [[46]], [[49]], [[50], [48]], [[51], [49]], [[52], [50]], [[53], [51]], [[54], [52]], [[55], [53]], [[54]], [[57]], [[58], [56]], [[59], [57]], [[60], [58]], [[61], [59]], [[62], [60]], [[63], [61]], [[62]], [], [], [], [], [], [], [], []]
def tp : List (List (List Nat)) := [[], [], [], [], [], [], [], [], [[1]], [[2], [0]], [[3], [1]], [[4], [2]], [[5], [3]], [[6], [4]], [[7], [5]], [[6]], [[9]], [[10], [8]], [[11], [9]], [[12], [10]], [[13], [11]], [[14], [12]], [[15], [13]], [[14]], [[17]], [[18], [16]], [[19], [17]], [[20], [18]], [[21], [19]], [[22], [20]], [[23], [21]], [[22]], [[25]], [[26], [24]], [[27], [25]], [[28], [26]], [[29], [27]], [[30], [28]], [[31], [29]], [[30]], [[33]], [[34], [32]], [[35], [33]], [[36], [34]], [[37], [35]], [[38], [36]], [[39], [37]], [[38]], [[41]], [[42], [40]], [[43], [41]], [[44], [42]], [[45], [43]], [[46], [44]], [[47], [45]], [[46]], [[49]], [[50], [48]], [[51], [49]], [[52], [50]], [[53], [51]], [[54], [52]], [[55], [53]], [[54]]]
def tN : List (List (List Nat)) := [[[17], [10]], [[18], [11], [16]], [[19], [12], [8], [17]], [[20], [13], [9], [18]], [[21], [14], [10], [19]], [[22], [15], [11], [20]], [[23], [12], [21]], [[13], [22]], [[25], [18], [2]], [[26], [19], [3], [24]], [[27], [20], [4], [0], [16], [25]], [[28], [21], [5], [1], [17], [26]], [[29], [22], [6], [2], [18], [27]], [[30], [23], [7], [3], [19], [28]], [[31], [4], [20], [29]], [[5], [21], [30]], [[33], [26], [10], [1]], [[34], [27], [11], [2], [0], [32]], [[35], [28], [12], [3], [1], [8], [24], [33]], [[36], [29], [13], [4], [2], [9], [25], [34]], [[37], [30], [14], [5], [3], [10], [26], [35]], [[38], [31], [15], [6], [4], [11], [27], [36]], [[39], [7], [5], [12], [28], [37]], [[6], [13], [29], [38]], [[41], [34], [18], [9]], [[42], [35], [19], [10], [8], [40]], [[43], [36], [20], [11], [9], [16], [32], [41]], [[44], [37], [21], [12], [10], [17], [33], [42]], [[45], [38], [22], [13], [11], [18], [34], [43]], [[46], [39], [23], [14], [12], [19], [35], [44]], [[47], [15], [13], [20], [36], [45]], [[14], [21], [37], [46]], [[49], [42], [26], [17]], [[50], [43], [27], [18], [16], [48]], [[51], [44], [28], [19], [17], [24], [40], [49]], [[52], [45], [29], [20], [18], [25], [41], [50]], [[53], [46], [30], [21], [19], [26], [42], [51]], [[54], [47], [31], [22], [20], [27], [43], [52]], [[55], [23], [21], [28], [44], [53]], [[22], [29], [45], [54]], [[57], [50], [34], [25]], [[58], [51], [35], [26], [24], [56]], [[59], [52], [36], [27], [25], [32], [48], [57]], [[60], [53], [37], [28], [26], [33], [49], [58]], [[61], [54], [38], [29], [27], [34], [50], [59]], [[62], [55], [39], [30], [28], [35], [51], [60]], [[63], [31], [29], [36], [52], [61]], [[30], [37], [53], [62]], [[58], [42], [33]], [[59], [43], [34], [32]], [[60], [44], [35], [33], [40], [56]], [[61], [45], [36], [34], [41], [57]], [[62], [46], [37], [35], [42], [58]], [[63], [47], [38], [36], [43], [59]], [[39], [37], [44], [60]], [[38], [45], [61]], [[50], [41]], [[51], [42], [40]], [[52], [43], [41], [48]], [[53], [44], [42], [49]], [[54], [45], [43], [50]], [[55], [46], [44], [51]], [[47], [45], [52]], [[46], [53]]]
def tB : List (List (List Nat)) := [[[9, 18, 27, 36, 45, 54, 63]], [[10, 19, 28, 37, 46, 55], [8]], [[11, 20, 29, 38, 47], [9, 16]], [[12, 21, 30, 39], [10, 17, 24]], [[13, 22, 31], [11, 18, 25, 32]], [[14, 23], [12, 19, 26, 33, 40]], [[15], [13, 20, 27, 34, 41, 48]], [[14, 21, 28, 35, 42, 49, 56]], [[17, 26, 35, 44, 53, 62], [1]], [[18, 27, 36, 45, 54, 63], [2], [0], [16]], [[19, 28, 37, 46, 55], [3], [1], [17, 24]], [[20, 29, 38, 47], [4], [2], [18, 25, 32]], [[21, 30, 39], [5], [3], [19, 26, 33, 40]], [[22, 31], [6], [4], [20, 27, 34, 41, 48]], [[23], [7], [5], [21, 28, 35, 42, 49, 56]], [[6], [22, 29, 36, 43, 50, 57]], [[25, 34, 43, 52, 61], [9, 2]], [[26, 35, 44, 53, 62], [10, 3], [8], [24]], [[27, 36, 45, 54, 63], [11, 4], [9, 0], [25, 32]], [[28, 37, 46, 55], [12, 5], [10, 1], [26, 33, 40]], [[29, 38, 47], [13, 6], [11, 2], [27, 34, 41, 48]], [[30, 39], [14, 7], [12, 3], [28, 35, 42, 49, 56]], [[31], [15], [13, 4], [29, 36, 43, 50, 57]], [[14, 5], [30, 37, 44, 51, 58]], [[33, 42, 51, 60], [17, 10, 3]], [[34, 43, 52, 61], [18, 11, 4], [16], [32]], [[35, 44, 53, 62], [19, 12, 5], [17, 8], [33, 40]], [[36, 45, 54, 63], [20, 13, 6], [18, 9, 0], [34, 41, 48]], [[37, 46, 55], [21, 14, 7], [19, 10, 1], [35, 42, 49, 56]], [[38, 47], [22, 15], [20, 11, 2], [36, 43, 50, 57]], [[39], [23], [21, 12, 3], [37, 44, 51, 58]], [[22, 13, 4], [38, 45, 52, 59]], [[41, 50, 59], [25, 18, 11, 4]], [[42, 51, 60], [26, 19, 12, 5], [24], [40]], [[43, 52, 61], [27, 20, 13, 6], [25, 16], [41, 48]], [[44, 53, 62], [28, 21, 14, 7], [26, 17, 8], [42, 49, 56]], [[45, 54, 63], [29, 22, 15], [27, 18, 9, 0], [43, 50, 57]], [[46, 55], [30, 23], [28, 19, 10, 1], [44, 51, 58]], [[47], [31], [29, 20, 11, 2], [45, 52, 59]], [[30, 21, 12, 3], [46, 53, 60]], [[49, 58], [33, 26, 19, 12, 5]], [[50, 59], [34, 27, 20, 13, 6], [32], [48]], [[51, 60], [35, 28, 21, 14, 7], [33, 24], [49, 56]], [[52, 61], [36, 29, 22, 15], [34, 25, 16], [50, 57]], [[53, 62], [37, 30, 23], [35, 26, 17, 8], [51, 58]], [[54, 63], [38, 31], [36, 27, 18, 9, 0], [52, 59]], [[55], [39], [37, 28, 19, 10, 1], [53, 60]], [[38, 29, 20, 11, 2], [54, 61]], [[57], [41, 34, 27, 20, 13, 6]], [[58], [42, 35, 28, 21, 14, 7], [40], [56]], [[59], [43, 36, 29, 22, 15], [41, 32], [57]], [[60], [44, 37, 30, 23], [42, 33, 24], [58]], [[61], [45, 38, 31], [43, 34, 25, 16], [59]], [[62], [46, 39], [44, 35, 26, 17, 8], [60]], [[63], [47], [45, 36, 27, 18, 9, 0], [61]], [[46, 37, 28, 19, 10, 1], [62]], [[49, 42, 35, 28, 21, 14, 7]], [[50, 43, 36, 29, 22, 15], [48]], [[51, 44, 37, 30, 23], [49, 40]], [[52, 45, 38, 31], [50, 41, 32]], [[53, 46, 39], [51, 42, 33, 24]], [[54, 47], [52, 43, 34, 25, 16]], [[55], [53, 44, 35, 26, 17, 8]], [[54, 45, 36, 27, 18, 9, 0]]]
def tR : List (List (List Nat)) := [[[8, 16, 24, 32, 40, 48, 56], [1, 2, 3, 4, 5, 6, 7]], [[9, 17, 25, 33, 41, 49, 57], [2, 3, 4, 5, 6, 7], [0]], [[10, 18, 26, 34, 42, 50, 58], [3, 4, 5, 6, 7], [1, 0]], [[11, 19, 27, 35, 43, 51, 59], [4, 5, 6, 7], [2, 1, 0]], [[12, 20, 28, 36, 44, 52, 60], [5, 6, 7], [3, 2, 1, 0]], [[13, 21, 29, 37, 45, 53, 61], [6, 7], [4, 3, 2, 1, 0]], [[14, 22, 30, 38, 46, 54, 62], [7], [5, 4, 3, 2, 1, 0]], [[15, 23, 31, 39, 47, 55, 63], [6, 5, 4, 3, 2, 1, 0]], [[16, 24, 32, 40, 48, 56], [9, 10, 11, 12, 13, 14, 15], [0]], [[17, 25, 33, 41, 49, 57], [10, 11, 12, 13, 14, 15], [1], [8]], [[18, 26, 34, 42, 50, 58], [11, 12, 13, 14, 15], [2], [9, 8]], [[19, 27, 35, 43, 51, 59], [12, 13, 14, 15], [3], [10, 9, 8]], [[20, 28, 36, 44, 52, 60], [13, 14, 15], [4], [11, 10, 9, 8]], [[21, 29, 37, 45, 53, 61], [14, 15], [5], [12, 11, 10, 9, 8]], [[22, 30, 38, 46, 54, 62], [15], [6], [13, 12, 11, 10, 9, 8]], [[23, 31, 39, 47, 55, 63], [7], [14, 13, 12, 11, 10, 9, 8]], [[24, 32, 40, 48, 56], [17, 18, 19, 20, 21, 22, 23], [8, 0]], [[25, 33, 41, 49, 57], [18, 19, 20, 21, 22, 23], [9, 1], [16]], [[26, 34, 42, 50, 58], [19, 20, 21, 22, 23], [10, 2], [17, 16]], [[27, 35, 43, 51, 59], [20, 21, 22, 23], [11, 3], [18, 17, 16]], [[28, 36, 44, 52, 60], [21, 22, 23], [12, 4], [19, 18, 17, 16]], [[29, 37, 45, 53, 61], [22, 23], [13, 5], [20, 19, 18, 17, 16]], [[30, 38, 46, 54, 62], [23], [14, 6], [21, 20, 19, 18, 17, 16]], [[31, 39, 47, 55, 63], [15, 7], [22, 21, 20, 19, 18, 17, 16]], [[32, 40, 48, 56], [25, 26, 27, 28, 29, 30, 31], [16, 8, 0]], [[33, 41, 49, 57], [26, 27, 28, 29, 30, 31], [17, 9, 1], [24]], [[34, 42, 50, 58], [27, 28, 29, 30, 31], [18, 10, 2], [25, 24]], [[35, 43, 51, 59], [28, 29, 30, 31], [19, 11, 3], [26, 25, 24]], [[36, 44, 52, 60], [29, 30, 31], [20, 12, 4], [27, 26, 25, 24]], [[37, 45, 53, 61], [30, 31], [21, 13, 5], [28, 27, 26, 25, 24]], [[38, 46, 54, 62], [31], [22, 14, 6], [29, 28, 27, 26, 25, 24]], [[39, 47, 55, 63], [23, 15, 7], [30, 29, 28, 27, 26, 25, 24]], [[40, 48, 56], [33, 34, 35, 36, 37, 38, 39], [24, 16, 8, 0]], [[41, 49, 57], [34, 35, 36, 37, 38, 39], [25, 17, 9, 1], [32]], [[42, 50, 58], [35, 36, 37, 38, 39], [26, 18, 10, 2], [33, 32]], [[43, 51, 59], [36, 37, 38, 39], [27, 19, 11, 3], [34, 33, 32]], [[44, 52, 60], [37, 38, 39], [28, 20, 12, 4], [35, 34, 33, 32]], [[45, 53, 61], [38, 39], [29, 21, 13, 5], [36, 35, 34, 33, 32]], [[46, 54, 62], [39], [30, 22, 14, 6], [37, 36, 35, 34, 33, 32]], [[47, 55, 63], [31, 23, 15, 7], [38, 37, 36, 35, 34, 33, 32]], [[48, 56], [41, 42, 43, 44, 45, 46, 47], [32, 24, 16, 8, 0]], [[49, 57], [42, 43, 44, 45, 46, 47], [33, 25, 17, 9, 1], [40]], [[50, 58], [43, 44, 45, 46, 47], [34, 26, 18, 10, 2], [41, 40]], [[51, 59], [44, 45, 46, 47], [35, 27, 19, 11, 3], [42, 41, 40]], [[52, 60], [45, 46, 47], [36, 28, 20, 12, 4], [43, 42, 41, 40]], [[53, 61], [46, 47], [37, 29, 21, 13, 5], [44, 43, 42, 41, 40]], [[54, 62], [47], [38, 30, 22, 14, 6], [45, 44, 43, 42, 41, 40]], [[55, 63], [39, 31, 23, 15, 7], [46, 45, 44, 43, 42, 41, 40]], [[56], [49, 50, 51, 52, 53, 54, 55], [40, 32, 24, 16, 8, 0]], [[57], [50, 51, 52, 53, 54, 55], [41, 33, 25, 17, 9, 1], [48]], [[58], [51, 52, 53, 54, 55], [42, 34, 26, 18, 10, 2], [49, 48]], [[59], [52, 53, 54, 55], [43, 35, 27, 19, 11, 3], [50, 49, 48]], [[60], [53, 54, 55], [44, 36, 28, 20, 12, 4], [51, 50, 49, 48]], [[61], [54, 55], [45, 37, 29, 21, 13, 5], [52, 51, 50, 49, 48]], [[62], [55], [46, 38, 30, 22, 14, 6], [53, 52, 51, 50, 49, 48]], [[63], [47, 39, 31, 23, 15, 7], [54, 53, 52, 51, 50, 49, 48]], [[57, 58, 59, 60, 61, 62, 63], [48, 40, 32, 24, 16, 8, 0]], [[58, 59, 60, 61, 62, 63], [49, 41, 33, 25, 17, 9, 1], [56]], [[59, 60, 61, 62, 63], [50, 42, 34, 26, 18, 10, 2], [57, 56]], [[60, 61, 62, 63], [51, 43, 35, 27, 19, 11, 3], [58, 57, 56]], [[61, 62, 63], [52, 44, 36, 28, 20, 12, 4], [59, 58, 57, 56]], [[62, 63], [53, 45, 37, 29, 21, 13, 5], [60, 59, 58, 57, 56]], [[63], [54, 46, 38, 30, 22, 14, 6], [61, 60, 59, 58, 57, 56]], [[55, 47, 39, 31, 23, 15, 7], [62, 61, 60, 59, 58, 57, 56]]]
def tQ : List (List (List Nat)) := [[[8, 16, 24, 32, 40, 48, 56], [1, 2, 3, 4, 5, 6, 7], [9, 18, 27, 36, 45, 54, 63]], [[9, 17, 25, 33, 41, 49, 57], [2, 3, 4, 5, 6, 7], [0], [10, 19, 28, 37, 46, 55], [8]], [[10, 18, 26, 34, 42, 50, 58], [3, 4, 5, 6, 7], [1, 0], [11, 20, 29, 38, 47], [9, 16]], [[11, 19, 27, 35, 43, 51, 59], [4, 5, 6, 7], [2, 1, 0], [12, 21, 30, 39], [10, 17, 24]], [[12, 20, 28, 36, 44, 52, 60], [5, 6, 7], [3, 2, 1, 0], [13, 22, 31], [11, 18, 25, 32]], [[13, 21, 29, 37, 45, 53, 61], [6, 7], [4, 3, 2, 1, 0], [14, 23], [12, 19, 26, 33, 40]], [[14, 22, 30, 38, 46, 54, 62], [7], [5, 4, 3, 2, 1, 0], [15], [13, 20, 27, 34, 41, 48]], [[15, 23, 31, 39, 47, 55, 63], [6, 5, 4, 3, 2, 1, 0], [14, 21, 28, 35, 42, 49, 56]], [[16, 24, 32, 40, 48, 56], [9, 10, 11, 12, 13, 14, 15], [0], [17, 26, 35, 44, 53, 62], [1]], [[17, 25, 33, 41, 49, 57], [10, 11, 12, 13, 14, 15], [1], [8], [18, 27, 36, 45, 54, 63], [2], [0], [16]], [[18, 26, 34, 42, 50, 58], [11, 12, 13, 14, 15], [2], [9, 8], [19, 28, 37, 46, 55], [3], [1], [17, 24]], [[19, 27, 35, 43, 51, 59], [12, 13, 14, 15], [3], [10, 9, 8], [20, 29, 38, 47], [4], [2], [18, 25, 32]], [[20, 28, 36, 44, 52, 60], [13, 14, 15], [4], [11, 10, 9, 8], [21, 30, 39], [5], [3], [19, 26, 33, 40]], [[21, 29, 37, 45, 53, 61], [14, 15], [5], [12, 11, 10, 9, 8], [22, 31], [6], [4], [20, 27, 34, 41, 48]], [[22, 30, 38, 46, 54, 62], [15], [6], [13, 12, 11, 10, 9, 8], [23], [7], [5], [21, 28, 35, 42, 49, 56]], [[23, 31, 39, 47, 55, 63], [7], [14, 13, 12, 11, 10, 9, 8], [6], [22, 29, 36, 43, 50, 57]], [[24, 32, 40, 48, 56], [17, 18, 19, 20, 21, 22, 23], [8, 0], [25, 34, 43, 52, 61], [9, 2]], [[25, 33, 41, 49, 57], [18, 19, 20, 21, 22, 23], [9, 1], [16], [26, 35, 44, 53, 62], [10, 3], [8], [24]], [[26, 34, 42, 50, 58], [19, 20, 21, 22, 23], [10, 2], [17, 16], [27, 36, 45, 54, 63], [11, 4], [9, 0], [25, 32]], [[27, 35, 43, 51, 59], [20, 21, 22, 23], [11, 3], [18, 17, 16], [28, 37, 46, 55], [12, 5], [10, 1], [26, 33, 40]], [[28, 36, 44, 52, 60], [21, 22, 23], [12, 4], [19, 18, 17, 16], [29, 38, 47], [13, 6], [11, 2], [27, 34, 41, 48]], [[29, 37, 45, 53, 61], [22, 23], [13, 5], [20, 19, 18, 17, 16], [30, 39], [14, 7], [12, 3], [28, 35, 42, 49, 56]], [[30, 38, 46, 54, 62], [23], [14, 6], [21, 20, 19, 18, 17, 16], [31], [15], [13, 4], [29, 36, 43, 50, 57]], [[31, 39, 47, 55, 63], [15, 7], [22, 21, 20, 19, 18, 17, 16], [14, 5], [30, 37, 44, 51, 58]], [[32, 40, 48, 56], [25, 26, 27, 28, 29, 30, 31], [16, 8, 0], [33, 42, 51, 60], [17, 10, 3]], [[33, 41, 49, 57], [26, 27, 28, 29, 30, 31], [17, 9, 1], [24], [34, 43, 52, 61], [18, 11, 4], [16], [32]], [[34, 42, 50, 58], [27, 28, 29, 30, 31], [18, 10, 2], [25, 24], [35, 44, 53, 62], [19, 12, 5], [17, 8], [33, 40]], [[35, 43, 51, 59], [28, 29, 30, 31], [19, 11, 3], [26, 25, 24], [36, 45, 54, 63], [20, 13, 6], [18, 9, 0], [34, 41, 48]], [[36, 44, 52, 60], [29, 30, 31], [20, 12, 4], [27, 26, 25, 24], [37, 46, 55], [21, 14, 7], [19, 10, 1], [35, 42, 49, 56]], [[37, 45, 53, 61], [30, 31], [21, 13, 5], [28, 27, 26, 25, 24], [38, 47], [22, 15], [20, 11, 2], [36, 43, 50, 57]], [[38, 46, 54, 62], [31], [22, 14, 6], [29, 28, 27, 26, 25, 24], [39], [23], [21, 12, 3], [37, 44, 51, 58]], [[39, 47, 55, 63], [23, 15, 7], [30, 29, 28, 27, 26, 25, 24], [22, 13, 4], [38, 45, 52, 59]], [[40, 48, 56], [33, 34, 35, 36, 37, 38, 39], [24, 16, 8, 0], [41, 50, 59], [25, 18, 11, 4]], [[41, 49, 57], [34, 35, 36, 37, 38, 39], [25, 17, 9, 1], [32], [42, 51, 60], [26, 19, 12, 5], [24], [40]], [[42, 50, 58], [35, 36, 37, 38, 39], [26, 18, 10, 2], [33, 32], [43, 52, 61], [27, 20, 13, 6], [25, 16], [41, 48]], [[43, 51, 59], [36, 37, 38, 39], [27, 19, 11, 3], [34, 33, 32], [44, 53, 62], [28, 21, 14, 7], [26, 17, 8], [42, 49, 56]], [[44, 52, 60], [37, 38, 39], [28, 20, 12, 4], [35, 34, 33, 32], [45, 54, 63], [29, 22, 15], [27, 18, 9, 0], [43, 50, 57]], [[45, 53, 61], [38, 39], [29, 21, 13, 5], [36, 35, 34, 33, 32], [46, 55], [30, 23], [28, 19, 10, 1], [44, 51, 58]], [[46, 54, 62], [39], [30, 22, 14, 6], [37, 36, 35, 34, 33, 32], [47], [31], [29, 20, 11, 2], [45, 52, 59]], [[47, 55, 63], [31, 23, 15, 7], [38, 37, 36, 35, 34, 33, 32], [30, 21, 12, 3], [46, 53, 60]], [[48, 56], [41, 42, 43, 44, 45, 46, 47], [32, 24, 16, 8, 0], [49, 58], [33, 26, 19, 12, 5]], [[49, 57], [42, 43, 44, 45, 46, 47], [33, 25, 17, 9, 1], [40], [50, 59], [34, 27, 20, 13, 6], [32], [48]], [[50, 58], [43, 44, 45, 46, 47], [34, 26, 18, 10, 2], [41, 40], [51, 60], [35, 28, 21, 14, 7], [33, 24], [49, 56]], [[51, 59], [44, 45, 46, 47], [35, 27, 19, 11, 3], [42, 41, 40], [52, 61], [36, 29, 22, 15], [34, 25, 16], [50, 57]], [[52, 60], [45, 46, 47], [36, 28, 20, 12, 4], [43, 42, 41, 40], [53, 62], [37, 30, 23], [35, 26, 17, 8], [51, 58]], [[53, 61], [46, 47], [37, 29, 21, 13, 5], [44, 43, 42, 41, 40], [54, 63], [38, 31], [36, 27, 18, 9, 0], [52, 59]], [[54, 62], [47], [38, 30, 22, 14, 6], [45, 44, 43, 42, 41, 40], [55], [39], [37, 28, 19, 10, 1], [53, 60]], [[55, 63], [39, 31, 23, 15, 7], [46, 45, 44, 43, 42, 41, 40], [38, 29, 20, 11, 2], [54, 61]], [[56], [49, 50, 51, 52, 53, 54, 55], [40, 32, 24, 16, 8, 0], [57], [41, 34, 27, 20, 13, 6]], [[57], [50, 51, 52, 53, 54, 55], [41, 33, 25, 17, 9, 1], [48], [58], [42, 35, 28, 21, 14, 7], [40], [56]], [[58], [51, 52, 53, 54, 55], [42, 34, 26, 18, 10, 2], [49, 48], [59], [43, 36, 29, 22, 15], [41, 32], [57]], [[59], [52, 53, 54, 55], [43, 35, 27, 19, 11, 3], [50, 49, 48], [60], [44, 37, 30, 23], [42, 33, 24], [58]], [[60], [53, 54, 55], [44, 36, 28, 20, 12, 4], [51, 50, 49, 48], [61], [45, 38, 31], [43, 34, 25, 16], [59]], [[61], [54, 55], [45, 37, 29, 21, 13, 5], [52, 51, 50, 49, 48], [62], [46, 39], [44, 35, 26, 17, 8], [60]], [[62], [55], [46, 38, 30, 22, 14, 6], [53, 52, 51, 50, 49, 48], [63], [47], [45, 36, 27, 18, 9, 0], [61]], [[63], [47, 39, 31, 23, 15, 7], [54, 53, 52, 51, 50, 49, 48], [46, 37, 28, 19, 10, 1], [62]], [[57, 58, 59, 60, 61, 62, 63], [48, 40, 32, 24, 16, 8, 0], [49, 42, 35, 28, 21, 14, 7]], [[58, 59, 60, 61, 62, 63], [49, 41, 33, 25, 17, 9, 1], [56], [50, 43, 36, 29, 22, 15], [48]], [[59, 60, 61, 62, 63], [50, 42, 34, 26, 18, 10, 2], [57, 56], [51, 44, 37, 30, 23], [49, 40]], [[60, 61, 62, 63], [51, 43, 35, 27, 19, 11, 3], [58, 57, 56], [52, 45, 38, 31], [50, 41, 32]], [[61, 62, 63], [52, 44, 36, 28, 20, 12, 4], [59, 58, 57, 56], [53, 46, 39], [51, 42, 33, 24]], [[62, 63], [53, 45, 37, 29, 21, 13, 5], [60, 59, 58, 57, 56], [54, 47], [52, 43, 34, 25, 16]], [[63], [54, 46, 38, 30, 22, 14, 6], [61, 60, 59, 58, 57, 56], [55], [53, 44, 35, 26, 17, 8]], [[55, 47, 39, 31, 23, 15, 7], [62, 61, 60, 59, 58, 57, 56], [54, 45, 36, 27, 18, 9, 0]]]
def tK : List (List (List Nat)) := [[[8], [1], [9]], [[9], [2], [0], [10], [8]], [[10], [3], [1], [11], [9]], [[11], [4], [2], [12], [10]], [[12], [5], [3], [13], [11]], [[13], [6], [4], [14], [12]], [[14], [7], [5], [15], [13]], [[15], [6], [14]], [[16], [9], [0], [17], [1]], [[17], [10], [1], [8], [18], [2], [0], [16]], [[18], [11], [2], [9], [19], [3], [1], [17]], [[19], [12], [3], [10], [20], [4], [2], [18]], [[20], [13], [4], [11], [21], [5], [3], [19]], [[21], [14], [5], [12], [22], [6], [4], [20]], [[22], [15], [6], [13], [23], [7], [5], [21]], [[23], [7], [14], [6], [22]], [[24], [17], [8], [25], [9]], [[25], [18], [9], [16], [26], [10], [8], [24]], [[26], [19], [10], [17], [27], [11], [9], [25]], [[27], [20], [11], [18], [28], [12], [10], [26]], [[28], [21], [12], [19], [29], [13], [11], [27]], [[29], [22], [13], [20], [30], [14], [12], [28]], [[30], [23], [14], [21], [31], [15], [13], [29]], [[31], [15], [22], [14], [30]], [[32], [25], [16], [33], [17]], [[33], [26], [17], [24], [34], [18], [16], [32]], [[34], [27], [18], [25], [35], [19], [17], [33]], [[35], [28], [19], [26], [36], [20], [18], [34]], [[36], [29], [20], [27], [37], [21], [19], [35]], [[37], [30], [21], [28], [38], [22], [20], [36]], [[38], [31], [22], [29], [39], [23], [21], [37]], [[39], [23], [30], [22], [38]], [[40], [33], [24], [41], [25]], [[41], [34], [25], [32], [42], [26], [24], [40]], [[42], [35], [26], [33], [43], [27], [25], [41]], [[43], [36], [27], [34], [44], [28], [26], [42]], [[44], [37], [28], [35], [45], [29], [27], [43]], [[45], [38], [29], [36], [46], [30], [28], [44]], [[46], [39], [30], [37], [47], [31], [29], [45]], [[47], [31], [38], [30], [46]], [[48], [41], [32], [49], [33]], [[49], [42], [33], [40], [50], [34], [32], [48]], [[50], [43], [34], [41], [51], [35], [33], [49]], [[51], [44], [35], [42], [52], [36], [34], [50]], [[52], [45], [36], [43], [53], [37], [35], [51]], [[53], [46], [37], [44], [54], [38], [36], [52]], [[54], [47], [38], [45], [55], [39], [37], [53]], [[55], [39], [46], [38], [54]], [[56], [49], [40], [57], [41]], [[57], [50], [41], [48], [58], [42], [40], [56]], [[58], [51], [42], [49], [59], [43], [41], [57]], [[59], [52], [43], [50], [60], [44], [42], [58]], [[60], [53], [44], [51], [61], [45], [43], [59]], [[61], [54], [45], [52], [62], [46], [44], [60]], [[62], [55], [46], [53], [63], [47], [45], [61]], [[63], [47], [54], [46], [62]], [[57], [48], [49]], [[58], [49], [56], [50], [48]], [[59], [50], [57], [51], [49]], [[60], [51], [58], [52], [50]], [[61], [52], [59], [53], [51]], [[62], [53], [60], [54], [52]], [[63], [54], [61], [55], [53]], [[55], [62], [54]]]
def zz (R : List (List Nat)) : List (List Int) := R.map fun l => l.map Int.ofNat
def isT (man : Int) (t : List (List (List Nat))) : Bool := (List.range 64).all fun s => rq man s == zz (t.getD s [])
theorem is_p1 : isT 1 tP = true := by decide +kernel
theorem is_m1 : isT (-1) tp = true := by decide +kernel
theorem is_p2 : isT 2 tN = true := by decide +kernel
theorem is_p3 : isT 3 tB = true := by decide +kernel
theorem is_p4 : isT 4 tR = true := by decide +kernel
theorem is_p5 : isT 5 tQ = true := by decide +kernel
theorem is_p6 : isT 6 tK = true := by decide +kernel
theorem is_m2 : isT (-2) tN = true := by decide +kernel
theorem is_m3 : isT (-3) tB = true := by decide +kernel
theorem is_m4 : isT (-4) tR = true := by decide +kernel
theorem is_m5 : isT (-5) tQ = true := by decide +kernel
theorem is_m6 : isT (-6) tK = true := by decide +kernel
theorem isT_at {man : Int} {t : List (List (List Nat))} (h : isT man t = true) {s : Nat} (hs : s < 64) : rq man s = zz (t.getD s []) := by
  have := List.all_eq_true.1 h s (List.mem_range.2 hs)
  simpa using this
def cutN (b : Nat) : List Nat → Option (List Nat)
  | [] => none
  | x :: l => if x = b then some [] else (cutN b l).map (x :: ·)
def lineN (b : Nat) : List (List Nat) → List Nat
  | [] => []
  | r :: R => match cutN b r with | some c => c | none => lineN b R
theorem cut_N (b : Nat) : ∀ l : List Nat, cutAt (b : Int) (l.map Int.ofNat) = (cutN b l).map (·.map Int.ofNat)
  | [] => rfl
  | x :: l => by
    rw [List.map_cons]
    unfold cutAt cutN
    by_cases h : x = b
    · rw [if_pos h, if_pos (by rw [h]; rfl)]; rfl
    · rw [if_neg h, if_neg (by intro hh; exact h (Int.ofNat.inj hh)), cut_N b l]
      cases cutN b l <;> rfl
theorem line_N (b : Nat) : ∀ R : List (List Nat), lineL (b : Int) (zz R) = (lineN b R).map Int.ofNat
  | [] => rfl
  | r :: R => by
    show lineL (b : Int) (r.map Int.ofNat :: zz R) = _
    unfold lineL lineN
    rw [cut_N]
    cases cutN b r with
    | none => exact line_N b R
    | some c => rfl
def backB (a : Nat) : Bool := (List.range 64).all fun b => lineN a (tQ.getD b []) == (lineN b (tQ.getD a [])).reverse
theorem back_all : ((List.range 64).all backB) = true := by decide +kernel
theorem line_back (a b : Int) : lineL a (raysZ 5 b) = (lineL b (raysZ 5 a)).reverse := by
  by_cases ha : 0 ≤ a ∧ a < 64
  · by_cases hb : 0 ≤ b ∧ b < 64
    · obtain ⟨m, rfl⟩ : ∃ m : Nat, a = m := ⟨a.toNat, by omega⟩
      obtain ⟨n, rfl⟩ : ∃ n : Nat, b = n := ⟨b.toNat, by omega⟩
      rw [rays_rq (by omega) (by omega) (by omega), rays_rq (by omega) (by omega) (by omega), isT_at is_p5 (show n < 64 by omega), isT_at is_p5 (show m < 64 by omega), line_N, line_N]
      have h1 := List.all_eq_true.1 back_all m (List.mem_range.2 (by omega))
      have h2 := List.all_eq_true.1 h1 n (List.mem_range.2 (by omega))
      rw [← List.map_reverse]; congr 1; simpa using h2
    · rw [rays_off hb, lineL_none (b := b) (fun r hr hm => hb (rays_on hr hm))]; rfl
  · rw [rays_off ha, lineL_none (b := a) (fun r hr hm => ha (rays_on hr hm))]; rfl
def metB (t t' : List (List (List Nat))) : Bool := (List.range 64).all fun s => (t.getD s []).all fun r => r.all fun x => (t'.getD x []).any fun b => b.contains s
theorem met_tP : metB tP tp = true := by decide +kernel
theorem met_tp : metB tp tP = true := by decide +kernel
theorem met_tN : metB tN tN = true := by decide +kernel
theorem met_tB : metB tB tB = true := by decide +kernel
theorem met_tR : metB tR tR = true := by decide +kernel
theorem met_tQ : metB tQ tQ = true := by decide +kernel
theorem met_tK : metB tK tK = true := by decide +kernel
theorem zz_mem {R : List (List Nat)} {r : List Int} (h : r ∈ zz R) : ∃ r', r' ∈ R ∧ r = r'.map Int.ofNat := by
  obtain ⟨x, h1, h2⟩ := List.mem_map.1 h; exact ⟨x, h1, h2.symm⟩
theorem met_of {m m' : Int} {t t' : List (List (List Nat))} (h : metB t t' = true) (h1 : isT m t = true) (h2 : isT m' t' = true) {s : Int} (hs : 0 ≤ s ∧ s < 64) {r : List Int} (hr : r ∈ rq m s) {x : Int} (hx : x ∈ r) (hx64 : 0 ≤ x ∧ x < 64) : ∃ b ∈ rq m' x, s ∈ b := by
  obtain ⟨n, rfl⟩ : ∃ n : Nat, s = n := ⟨s.toNat, by omega⟩
  rw [isT_at h1 (show n < 64 by omega)] at hr
  obtain ⟨r', hr', rfl⟩ := zz_mem hr
  obtain ⟨y, hy, rfl⟩ := List.mem_map.1 hx
  have hy64 : y < 64 := by have := hx64.2; simp at this; omega
  have q := List.all_eq_true.1 (List.all_eq_true.1 (List.all_eq_true.1 h n (List.mem_range.2 (by omega))) r' hr') y hy
  obtain ⟨b, hb, hc⟩ := List.any_eq_true.1 q
  refine ⟨b.map Int.ofNat, ?_, List.mem_map_of_mem (f := Int.ofNat) (by simpa using hc)⟩
  show _ ∈ rq m' ((y : Nat) : Int)
  rw [isT_at h2 hy64]
  exact List.mem_map_of_mem hb
def otherM (m : Int) : Int := if m = 1 ∨ m = -1 then -m else m
theorem met_is {m s : Int} (hm : manB m = true) {r : List Int} (hr : r ∈ raysZ m s) {x : Int} (hx : x ∈ r) : ∃ b ∈ raysZ (otherM m) x, s ∈ b := by
  have hb := manB_bd hm
  have hs : 0 ≤ s ∧ s < 64 := by
    by_cases h : 0 ≤ s ∧ s < 64
    · exact h
    · rw [rays_off h] at hr; cases hr
  have hx64 := rays_on hr hx
  have ho : otherM m ≠ 0 ∧ -6 ≤ otherM m ∧ otherM m ≤ 6 := by unfold otherM; split <;> omega
  rw [rays_rq hb.2.1 hb.2.2 hb.1] at hr
  rw [rays_rq ho.2.1 ho.2.2 ho.1]
  rcases (show m = 1 ∨ m = -1 ∨ m = 2 ∨ m = 3 ∨ m = 4 ∨ m = 5 ∨ m = 6 ∨ m = -2 ∨ m = -3 ∨ m = -4 ∨ m = -5 ∨ m = -6 by omega) with rfl | rfl | rfl | rfl | rfl | rfl | rfl | rfl | rfl | rfl | rfl | rfl
  · exact met_of met_tP is_p1 is_m1 hs hr hx hx64
  · exact met_of met_tp is_m1 is_p1 hs hr hx hx64
  · exact met_of met_tN is_p2 is_p2 hs hr hx hx64
  · exact met_of met_tB is_p3 is_p3 hs hr hx hx64
  · exact met_of met_tR is_p4 is_p4 hs hr hx hx64
  · exact met_of met_tQ is_p5 is_p5 hs hr hx hx64
  · exact met_of met_tK is_p6 is_p6 hs hr hx hx64
  · exact met_of met_tN is_m2 is_m2 hs hr hx hx64
  · exact met_of met_tB is_m3 is_m3 hs hr hx hx64
  · exact met_of met_tR is_m4 is_m4 hs hr hx hx64
  · exact met_of met_tQ is_m5 is_m5 hs hr hx hx64
  · exact met_of met_tK is_m6 is_m6 hs hr hx hx64
theorem rHas_l (l : List Int) (hl : l.length ≤ 100) (x : Int) : ∀ (d j k : Nat), j + d = l.length → d < k → i_alfilref01_Has.l0 k l x j = some (decide (x ∈ l.drop j)) := by
  intro d
  induction d with
  | zero => intro j k hj hk; obtain ⟨k, rfl⟩ : ∃ q, k = q + 1 := ⟨k - 1, by omega⟩; rw [i_alfilref01_Has.l0, if_neg (by omega), List.drop_eq_nil_of_le (by omega)]; rfl
  | succ d ih =>
    intro j k hj hk; obtain ⟨k, rfl⟩ : ∃ q, k = q + 1 := ⟨k - 1, by omega⟩
    have hlt : j < l.length := by omega
    rw [i_alfilref01_Has.l0, if_pos (Int.ofNat_lt.2 hlt), if_pos (Int.natCast_nonneg j), Int.toNat_natCast, up1 (by omega), ih (j + 1) k (by omega) (by omega), drop_nt 0 hlt]
    by_cases h : nt l j 0 = x
    · rw [if_pos h, h]; simp
    · rw [if_neg h]; congr 1; exact decide_eq_decide.mpr (by rw [List.mem_cons]; exact ⟨fun h2 => .inr h2, fun h2 => h2.elim (fun e => absurd e.symm h) id⟩)
theorem rHas (l : List Int) (hl : l.length ≤ 100) (x : Int) {k : Nat} (hk : 100 < k) : i_alfilref01_Has.f k l x = some (decide (x ∈ l)) := by
  rw [i_alfilref01_Has.f]
  have := rHas_l l hl x l.length 0 k (Nat.zero_add _) (by omega)
  rw [List.drop_zero] at this; exact this
theorem back_l2 {a0 a1 i j : Int} {T B : List (List Int)} (hB : B.length ≤ 100) (hb : ∀ b ∈ B, b.length ≤ 100) (M : Nat) (next : ∀ k, M < k → i_alfillaw06_RaysBack.l1 k a0 a1 i true T (wrap64 (j + 1)) = some true) : ∀ (d q k : Nat) (met : Bool), q + d = B.length → (met = true ∨ ∃ b ∈ B.drop q, a1 ∈ b) → d + 1 + M < k → 100 < M →
    i_alfillaw06_RaysBack.l2 k a0 a1 i j true T B met q = some true := by
  intro d
  induction d with
  | zero =>
    intro q k met hq hm hk hM
    obtain ⟨k, rfl⟩ : ∃ z, k = z + 1 := ⟨k - 1, by omega⟩
    have hmet : met = true := by
      rcases hm with h | ⟨b, hb2, _⟩
      · exact h
      · rw [List.drop_eq_nil_of_le (by omega)] at hb2; cases hb2
    have c : ¬ (q : Int) < (B.length : Int) := by omega
    rw [i_alfillaw06_RaysBack.l2, if_neg c, if_pos hmet, next k (by omega)]
  | succ d ih =>
    intro q k met hq hm hk hM
    obtain ⟨k, rfl⟩ : ∃ z, k = z + 1 := ⟨k - 1, by omega⟩
    have hlt : q < B.length := by omega
    have hmem : nt B q [] ∈ B := by unfold nt; rw [List.getD_eq_getElem?_getD, List.getElem?_eq_getElem hlt]; exact List.getElem_mem _
    have hk2 : 100 < k := by omega
    have ih2 := fun met h => ih (q + 1) k met (by omega) h (by omega) hM
    clear ih next hk
    rw [i_alfillaw06_RaysBack.l2, if_pos (Int.ofNat_lt.2 hlt), if_pos (Int.natCast_nonneg q), Int.toNat_natCast, up1 (by omega), rHas _ (hb _ hmem) _ hk2, Option.bind_some]
    by_cases h : met = true
    · rw [if_pos h]; exact ih2 true (.inl rfl)
    · rw [if_neg h]
      refine ih2 _ ?_
      rcases hm with h2 | ⟨b, hb2, hb3⟩
      · exact absurd h2 h
      · rw [drop_nt [] hlt] at hb2
        rcases List.mem_cons.1 hb2 with rfl | hb2
        · exact .inl (decide_eq_true hb3)
        · exact .inr ⟨b, hb2, hb3⟩
theorem back_l3 {a0 a1 i j : Int} {T B : List (List Int)} (hB : B.length ≤ 100) (hb : ∀ b ∈ B, b.length ≤ 100) (M : Nat) (next : ∀ k, M < k → i_alfillaw06_RaysBack.l1 k a0 a1 i true T (wrap64 (j + 1)) = some true) : ∀ (d q k : Nat) (met : Bool), q + d = B.length → (met = true ∨ ∃ b ∈ B.drop q, a1 ∈ b) → d + 1 + M < k → 100 < M →
    i_alfillaw06_RaysBack.l3 k a0 a1 i j B true T met q = some true := by
  intro d
  induction d with
  | zero =>
    intro q k met hq hm hk hM
    obtain ⟨k, rfl⟩ : ∃ z, k = z + 1 := ⟨k - 1, by omega⟩
    have hmet : met = true := by
      rcases hm with h | ⟨b, hb2, _⟩
      · exact h
      · rw [List.drop_eq_nil_of_le (by omega)] at hb2; cases hb2
    have c : ¬ (q : Int) < (B.length : Int) := by omega
    rw [i_alfillaw06_RaysBack.l3, if_neg c, if_pos hmet, next k (by omega)]
  | succ d ih =>
    intro q k met hq hm hk hM
    obtain ⟨k, rfl⟩ : ∃ z, k = z + 1 := ⟨k - 1, by omega⟩
    have hlt : q < B.length := by omega
    have hmem : nt B q [] ∈ B := by unfold nt; rw [List.getD_eq_getElem?_getD, List.getElem?_eq_getElem hlt]; exact List.getElem_mem _
    have hk2 : 100 < k := by omega
    have ih2 := fun met h => ih (q + 1) k met (by omega) h (by omega) hM
    clear ih next hk
    rw [i_alfillaw06_RaysBack.l3, if_pos (Int.ofNat_lt.2 hlt), if_pos (Int.natCast_nonneg q), Int.toNat_natCast, up1 (by omega), rHas _ (hb _ hmem) _ hk2, Option.bind_some]
    by_cases h : met = true
    · rw [if_pos h]; exact ih2 true (.inl rfl)
    · rw [if_neg h]
      refine ih2 _ ?_
      rcases hm with h2 | ⟨b, hb2, hb3⟩
      · exact absurd h2 h
      · rw [drop_nt [] hlt] at hb2
        rcases List.mem_cons.1 hb2 with rfl | hb2
        · exact .inl (decide_eq_true hb3)
        · exact .inr ⟨b, hb2, hb3⟩
theorem back_l4 {a0 a1 i j : Int} {T B : List (List Int)} (hB : B.length ≤ 100) (hb : ∀ b ∈ B, b.length ≤ 100) (M : Nat) (next : ∀ k, M < k → i_alfillaw06_RaysBack.l1 k a0 a1 i true T (wrap64 (j + 1)) = some true) : ∀ (d q k : Nat) (met : Bool), q + d = B.length → (met = true ∨ ∃ b ∈ B.drop q, a1 ∈ b) → d + 1 + M < k → 100 < M →
    i_alfillaw06_RaysBack.l4 k a0 a1 i j B true T met q = some true := by
  intro d
  induction d with
  | zero =>
    intro q k met hq hm hk hM
    obtain ⟨k, rfl⟩ : ∃ z, k = z + 1 := ⟨k - 1, by omega⟩
    have hmet : met = true := by
      rcases hm with h | ⟨b, hb2, _⟩
      · exact h
      · rw [List.drop_eq_nil_of_le (by omega)] at hb2; cases hb2
    have c : ¬ (q : Int) < (B.length : Int) := by omega
    rw [i_alfillaw06_RaysBack.l4, if_neg c, if_pos hmet, next k (by omega)]
  | succ d ih =>
    intro q k met hq hm hk hM
    obtain ⟨k, rfl⟩ : ∃ z, k = z + 1 := ⟨k - 1, by omega⟩
    have hlt : q < B.length := by omega
    have hmem : nt B q [] ∈ B := by unfold nt; rw [List.getD_eq_getElem?_getD, List.getElem?_eq_getElem hlt]; exact List.getElem_mem _
    have hk2 : 100 < k := by omega
    have ih2 := fun met h => ih (q + 1) k met (by omega) h (by omega) hM
    clear ih next hk
    rw [i_alfillaw06_RaysBack.l4, if_pos (Int.ofNat_lt.2 hlt), if_pos (Int.natCast_nonneg q), Int.toNat_natCast, up1 (by omega), rHas _ (hb _ hmem) _ hk2, Option.bind_some]
    by_cases h : met = true
    · rw [if_pos h]; exact ih2 true (.inl rfl)
    · rw [if_neg h]
      refine ih2 _ ?_
      rcases hm with h2 | ⟨b, hb2, hb3⟩
      · exact absurd h2 h
      · rw [drop_nt [] hlt] at hb2
        rcases List.mem_cons.1 hb2 with rfl | hb2
        · exact .inl (decide_eq_true hb3)
        · exact .inr ⟨b, hb2, hb3⟩
theorem nt_mem {α : Type} {l : List α} {j : Nat} (d : α) (h : j < l.length) : nt l j d ∈ l := by unfold nt; rw [List.getD_eq_getElem?_getD, List.getElem?_eq_getElem h]; exact List.getElem_mem _
theorem raysZ_bd {m : Int} (hm : manB m = true) (s : Int) : (raysZ m s).length ≤ 8 ∧ ∀ r ∈ raysZ m s, r.length ≤ 64 := by
  have hb := manB_bd hm
  have h2 := steps_bd hb.2.1 hb.2.2
  refine ⟨Nat.le_trans rays_len h2.1, fun r hr => ?_⟩
  unfold raysZ at hr
  rw [if_neg hb.1] at hr
  obtain ⟨x, _, rfl⟩ := List.mem_map.1 (List.mem_filter.1 hr).1
  exact Nat.le_trans (walkF_len ..) h2.2
theorem neg_man {m : Int} (hm : manB m = true) : wrap64 (-m) = -m ∧ manB (-m) = true := by
  have := manB_bd hm
  refine ⟨q64 (by omega) (by omega), ?_⟩
  unfold manB; exact decide_eq_true (by omega)
theorem back_l1 {a0 a1 : Int} (hm : manB a0 = true) {i : Nat} (hlt : i < (raysZ a0 a1).length) (M : Nat) (next : ∀ k, M < k → i_alfillaw06_RaysBack.l0 k a0 a1 true (raysZ a0 a1) ((i + 1 : Nat) : Int) = some true) : ∀ (d j k : Nat), j + d = (nt (raysZ a0 a1) i []).length → 12 * d + 300 + M < k →
    i_alfillaw06_RaysBack.l1 k a0 a1 i true (raysZ a0 a1) j = some true := by
  have hbd := raysZ_bd hm a1
  have hmem : nt (raysZ a0 a1) i [] ∈ raysZ a0 a1 := by unfold nt; rw [List.getD_eq_getElem?_getD, List.getElem?_eq_getElem hlt]; exact List.getElem_mem _
  have hlen := hbd.2 _ hmem
  intro d
  induction d with
  | zero =>
    intro j k hj hk
    obtain ⟨k, rfl⟩ : ∃ z, k = z + 1 := ⟨k - 1, by omega⟩
    have c : ¬ (j : Int) < ((nt (raysZ a0 a1) i []).length : Int) := by omega
    rw [i_alfillaw06_RaysBack.l1, Int.toNat_natCast, if_neg c, up1 (by omega), next k (by omega)]
  | succ d ih =>
    intro j k hj hk
    obtain ⟨k, rfl⟩ : ∃ z, k = z + 1 := ⟨k - 1, by omega⟩
    have hj2 : j < (nt (raysZ a0 a1) i []).length := by omega
    have hjm : nt (nt (raysZ a0 a1) i []) j 0 ∈ nt (raysZ a0 a1) i [] := by
      exact nt_mem 0 hj2
    obtain ⟨b, hb1, hb2⟩ := met_is hm hmem hjm
    have hn := neg_man hm
    have nx : ∀ k, 12 * d + 300 + M < k → i_alfillaw06_RaysBack.l1 k a0 a1 i true (raysZ a0 a1) (wrap64 ((j : Int) + 1)) = some true := fun k hk => by rw [up1 (by omega)]; exact ih (j + 1) k (by omega) hk
    clear ih next
    rw [i_alfillaw06_RaysBack.l1, Int.toNat_natCast, Int.toNat_natCast, if_pos (Int.ofNat_lt.2 hj2), if_pos (Int.natCast_nonneg j), hn.1]
    revert hb1
    generalize nt (nt (raysZ a0 a1) i []) j 0 = x
    intro hb1
    by_cases h1 : a0 = 1
    · have e : otherM a0 = -a0 := by unfold otherM; rw [if_pos (Or.inl h1)]
      rw [e] at hb1
      have hq := raysZ_bd hn.2 x
      rw [if_pos h1, pOf, if_pos hn.2, Option.bind_some]
      exact back_l2 (by omega) (fun b hb => by have := hq.2 b hb; omega) _ nx _ 0 k false (Nat.zero_add _) (.inr ⟨b, hb1, hb2⟩) (by omega) (by omega)
    · by_cases h2 : a0 = -1
      · have e : otherM a0 = -a0 := by unfold otherM; rw [if_pos (Or.inr h2)]
        rw [e] at hb1
        have hq := raysZ_bd hn.2 x
        rw [if_neg h1, if_pos h2, pOf, if_pos hn.2, Option.bind_some]
        exact back_l3 (by omega) (fun b hb => by have := hq.2 b hb; omega) _ nx _ 0 k false (Nat.zero_add _) (.inr ⟨b, hb1, hb2⟩) (by omega) (by omega)
      · have e : otherM a0 = a0 := by unfold otherM; rw [if_neg (fun h => h.elim h1 h2)]
        rw [e] at hb1
        have hq := raysZ_bd hm x
        rw [if_neg h1, if_neg h2, pOf, if_pos hm, Option.bind_some]
        exact back_l4 (by omega) (fun b hb => by have := hq.2 b hb; omega) _ nx _ 0 k false (Nat.zero_add _) (.inr ⟨b, hb1, hb2⟩) (by omega) (by omega)
theorem back_l0 {a0 a1 : Int} (hm : manB a0 = true) : ∀ (d i k : Nat), i + d = (raysZ a0 a1).length → 1100 * d + 300 < k → i_alfillaw06_RaysBack.l0 k a0 a1 true (raysZ a0 a1) i = some true := by
  have hbd := raysZ_bd hm a1
  intro d
  induction d with
  | zero =>
    intro i k hi hk
    obtain ⟨k, rfl⟩ : ∃ z, k = z + 1 := ⟨k - 1, by omega⟩
    have c : ¬ (i : Int) < ((raysZ a0 a1).length : Int) := by omega
    rw [i_alfillaw06_RaysBack.l0, if_neg c]
  | succ d ih =>
    intro i k hi hk
    obtain ⟨k, rfl⟩ : ∃ z, k = z + 1 := ⟨k - 1, by omega⟩
    have hlt : i < (raysZ a0 a1).length := by omega
    have hmem : nt (raysZ a0 a1) i [] ∈ raysZ a0 a1 := by unfold nt; rw [List.getD_eq_getElem?_getD, List.getElem?_eq_getElem hlt]; exact List.getElem_mem _
    have hlen := hbd.2 _ hmem
    have := back_l1 hm hlt (1100 * d + 300) (fun k hk => ih (i + 1) k (by omega) hk) _ 0 k (Nat.zero_add _) (by omega)
    rw [i_alfillaw06_RaysBack.l0, if_pos (Int.ofNat_lt.2 hlt), if_pos (Int.natCast_nonneg i)]; exact this
theorem wk_of : rq 4 0 = [[8, 16, 24, 32, 40, 48, 56], [1, 2, 3, 4, 5, 6, 7]] ∧ lineL 63 (rq 5 0) = [9, 18, 27, 36, 45, 54] := by decide +kernel
theorem ray_wakes : i_alfillaw06_wakes.f 10000 = some true := by
  rw [i_alfillaw06_wakes.f, show i_rays_Make.f 10000 = some true from rfl, Option.bind_some, pOf, Option.bind_some, if_pos (show manB 4 = true by decide), rays_rq (by omega) (by omega) (by omega), wk_of.1, (lines5 0 63 (k := 10000) (by omega)).1, rays_rq (by omega) (by omega) (by omega), wk_of.2]
  have s1 := rSame (a := [8, 16, 24, 32, 40, 48, 56]) (by decide) (k := 10000) (by omega)
  have s2 := rSame (a := [9, 18, 27, 36, 45, 54]) (by decide) (k := 10000) (by omega)
  rw [if_pos (by decide), if_pos (by decide), show nt [[8, 16, 24, 32, 40, 48, 56], [1, 2, 3, 4, 5, 6, 7]] 0 ([] : List Int) = [8, 16, 24, 32, 40, 48, 56] from rfl, s1, Option.bind_some, if_pos rfl, Option.bind_some, s2]
  rfl
theorem nil_is (a b : Int) : i_alfillaw06_RaysNil.f 10000 a b = some true := by
  have h1 : ∀ m s, i_rays_Table_Of.f 10000 false m s = some [] := fun m s => by unfold i_rays_Table_Of.f; rw [if_neg (by simp)]
  have h2 : i_rays_Table_Line.f 10000 false a b = some [] := by
    rw [i_rays_Table_Line.f, h1, Option.bind_some, i_rays_Table_Line.l0, if_neg (by simp)]
  rw [i_alfillaw06_RaysNil.f, ray_wakes, Option.bind_some, if_pos rfl, h1, Option.bind_some, if_pos (by simp), h2]
  rfl
theorem turn_l {l : List Int} (hl : l.length ≤ 64) : ∀ (d i k : Nat), i + d = l.length → d < k → i_alfillaw06_RaysRay.l0 k l l.reverse i = some true := by
  intro d
  induction d with
  | zero => intro i k hi hk; obtain ⟨k, rfl⟩ : ∃ z, k = z + 1 := ⟨k - 1, by omega⟩; rw [i_alfillaw06_RaysRay.l0, if_neg (by omega)]
  | succ d ih =>
    intro i k hi hk; obtain ⟨k, rfl⟩ : ∃ z, k = z + 1 := ⟨k - 1, by omega⟩
    have hlt : i < l.length := by omega
    have e1 : wrap64 (wrap64 ((l.length : Int) - 1) - (i : Int)) = ((l.length - 1 - i : Nat) : Int) := by rw [q64 (x := (l.length : Int) - 1) (by omega) (by omega), q64 (by omega) (by omega)]; omega
    have c : ((l.length - 1 - i : Nat) : Int) < (l.length : Int) := by omega
    have eq : nt l i 0 = nt l.reverse (l.length - 1 - i) 0 := by
      unfold nt
      rw [List.getD_eq_getElem?_getD, List.getD_eq_getElem?_getD, List.getElem?_reverse (by omega), show l.length - 1 - (l.length - 1 - i) = i by omega]
    have ih2 := ih (i + 1) k (by omega) (by omega)
    clear ih
    rw [i_alfillaw06_RaysRay.l0, List.length_reverse, if_pos (Int.ofNat_lt.2 hlt), if_pos (Int.natCast_nonneg i), e1, if_pos (Int.natCast_nonneg _), if_pos c, Int.toNat_natCast, Int.toNat_natCast, if_pos eq, up1 (by omega)]
    exact ih2
theorem ray_is (s f r : Int) : i_alfillaw06_RaysRay.f 10000 s f r = some true := by
  have w1 : i_rays_Ray.f 10000 s f r = some (walkF f r 64 s) := by
    rw [i_rays_Ray.f, show (64 : Int) = ((64 : Nat) : Int) from rfl, walk_is s f r (m := 64) (by omega) (by omega)]; rfl
  have w2 := rRay s f r (k := 10000) (by omega)
  have w3 := rSame (a := walkF f r 64 s) (by have := walkF_len f r 64 s; omega) (k := 10000) (by omega)
  have hb := rays5_bd s
  have hlen := lineL_len (b := f) (R := raysZ 5 s) hb.2
  have l1 := lines5 s f (k := 10000) (by omega)
  have l2 := (lines5 f s (k := 10000) (by omega)).1
  rw [line_back] at l2
  have w4 := rSame (a := lineL f (raysZ 5 s)) (by omega) (k := 10000) (by omega)
  rw [i_alfillaw06_RaysRay.f, ray_wakes, Option.bind_some, if_pos rfl, w1, Option.bind_some, w2, Option.bind_some, w3, Option.bind_some, if_pos rfl, show i_rays_Make.f 10000 = some true from rfl, Option.bind_some, l1.1, Option.bind_some, l2, Option.bind_some, l1.2, Option.bind_some, w4, Option.bind_some, if_pos rfl, if_pos (by rw [List.length_reverse])]
  exact turn_l hlen _ 0 10000 (Nat.zero_add _) (by omega)
theorem back_is (a0 a1 : Int) : i_alfillaw06_RaysBack.f 10000 a0 a1 = some true := by
  rw [i_alfillaw06_RaysBack.f, ray_wakes, Option.bind_some, if_pos rfl, show i_rays_Make.f 10000 = some true from rfl, Option.bind_some, pOf, Option.bind_some]
  by_cases hm : manB a0 = true
  · rw [if_pos hm]
    have := raysZ_bd hm a1
    exact back_l0 hm _ 0 10000 (Nat.zero_add _) (by omega)
  · rw [if_neg hm, i_alfillaw06_RaysBack.l0, if_neg (by simp)]
theorem walk_RaysNil (a b : Int) (w : World) : Calls Try.prog 4 #[.int .i64 a, .int .i64 b] w fun e w' => e = .returned (.bool true) ∧ Below w.heap.size w w' := i_alfillaw06_RaysNil.calls 10000 a b true w (nil_is a b)
theorem walk_RaysRay (s f r : Int) (w : World) : Calls Try.prog 5 #[.int .i64 s, .int .i64 f, .int .i64 r] w fun e w' => e = .returned (.bool true) ∧ Below w.heap.size w w' := i_alfillaw06_RaysRay.calls 10000 s f r true w (ray_is s f r)
theorem walk_RaysBack (a b : Int) (w : World) : Calls Try.prog 3 #[.int .i64 a, .int .i64 b] w fun e w' => e = .returned (.bool true) ∧ Below w.heap.size w w' := i_alfillaw06_RaysBack.calls 10000 a b true w (back_is a b)
end Go.Proofs.Ytpjocgebnodnoaa
