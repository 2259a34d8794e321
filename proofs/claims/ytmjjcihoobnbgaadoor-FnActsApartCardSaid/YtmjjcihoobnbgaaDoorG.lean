/- The package variables. By program (wip/gen). -/
import Derived.Test.YtmjjcihoobnbgaaDoorGlob
import Derived.Test.YtmjjcihoobnbgaaDoorProg
namespace Go.Proofs.YtmjjcihoobnbgaaDoor.Fw
open Go.RowKit
set_option linter.unusedVariables false
set_option linter.unusedSimpArgs false

def gl0 : List ByteArray := [(⟨#[98, 101, 103, 105, 110]⟩ : ByteArray), (⟨#[97, 115, 107]⟩ : ByteArray), (⟨#[109, 97, 114, 107]⟩ : ByteArray), (⟨#[98, 97, 99, 107]⟩ : ByteArray), (⟨#[100, 114, 111, 112]⟩ : ByteArray), (⟨#[99, 111, 109, 109, 105, 116]⟩ : ByteArray), (⟨#[112, 108, 97, 105, 110]⟩ : ByteArray), (⟨#[102, 108, 117, 115, 104]⟩ : ByteArray), (⟨#[102, 111, 108, 100]⟩ : ByteArray), (⟨#[102, 111, 108, 100, 101, 100]⟩ : ByteArray), (⟨#[102, 97, 108, 108]⟩ : ByteArray), (⟨#[114, 101, 116, 114, 121]⟩ : ByteArray)]
theorem gl0_good (k : Nat) : (nth gl0 k).size ≤ maxLen := nth_good_str (by decide) k
def gl1 : List ByteArray := [(⟨#[109, 97, 107, 101]⟩ : ByteArray), (⟨#[108, 105, 110, 107]⟩ : ByteArray), (⟨#[117, 110, 108, 105, 110, 107]⟩ : ByteArray), (⟨#[114, 101, 110, 97, 109, 101]⟩ : ByteArray), (⟨#[110, 97, 109, 101, 115]⟩ : ByteArray), (⟨#[114, 101, 97, 100]⟩ : ByteArray), (⟨#[119, 114, 105, 116, 101]⟩ : ByteArray), (⟨#[99, 117, 116]⟩ : ByteArray), (⟨#[112, 105, 112, 101]⟩ : ByteArray), (⟨#[112, 117, 116]⟩ : ByteArray), (⟨#[116, 97, 107, 101]⟩ : ByteArray), (⟨#[115, 112, 97, 119, 110]⟩ : ByteArray), (⟨#[101, 110, 100]⟩ : ByteArray), (⟨#[114, 101, 97, 112]⟩ : ByteArray), (⟨#[107, 105, 100, 115]⟩ : ByteArray), (⟨#[115, 101, 110, 100]⟩ : ByteArray), (⟨#[115, 105, 103, 110, 97, 108]⟩ : ByteArray), (⟨#[116, 105, 109, 101, 114]⟩ : ByteArray), (⟨#[116, 105, 99, 107]⟩ : ByteArray), (⟨#[115, 116, 111, 114, 101]⟩ : ByteArray), (⟨#[108, 111, 97, 100]⟩ : ByteArray), (⟨#[111, 117, 116]⟩ : ByteArray)]
theorem gl1_good (k : Nat) : (nth gl1 k).size ≤ maxLen := nth_good_str (by decide) k
def gl7 : List Int := [1, 10, 100, 1000, 10000, 100000, 1000000, 10000000, 100000000, 1000000000, 10000000000, 100000000000, 1000000000000, 10000000000000, 100000000000000, 1000000000000000, 10000000000000000, 100000000000000000, 1000000000000000000, 10000000000000000000]
def gl9 : List Int := [0, 1, 28, 2, 29, 14, 24, 3, 30, 22, 20, 15, 25, 17, 4, 8, 31, 27, 13, 23, 21, 19, 16, 7, 26, 12, 18, 6, 11, 5, 10, 9]
def gl10 : List Int := [0, 1, 56, 2, 57, 49, 28, 3, 61, 58, 42, 50, 38, 29, 17, 4, 62, 47, 59, 36, 45, 43, 51, 22, 53, 39, 33, 30, 24, 18, 12, 5, 63, 55, 48, 27, 60, 41, 37, 16, 46, 35, 44, 21, 52, 32, 23, 11, 54, 26, 40, 15, 34, 20, 31, 10, 25, 14, 19, 9, 13, 8, 7, 6]

end Go.Proofs.YtmjjcihoobnbgaaDoor.Fw
