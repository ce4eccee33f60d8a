/- Layer 34 (deal): the chapter's examples, in plain numbers. -/
import Derived.Test.YtggmihnhdojepaaDealW
import Derived.Test.YtggmihnhdojepaaDealO
namespace Go.Proofs.Ytggmihnhdojepaa
open Go.RowKit
set_option linter.unusedVariables false
set_option linter.unusedSimpArgs false

def giftN : ByteArray := ⟨#[103, 105, 102, 116]⟩
def annN : ByteArray := ⟨#[97, 110, 110]⟩
def lsH : List Ln := [(1, 1000), (2, 100), (3, 110)]
theorem ex_sale : saleE lsH 1210 annN [(cardN, 1000), (giftN, 210)] = 0 := by decide +kernel
theorem ex_saleL : saleL lsH 1210 annN [(cardN, 1000), (giftN, 210)] = [((5, cardN), -1000), ((5, giftN), -210), ((2, noName), 1000), ((1, noName), 100), ((3, noName), 110)] := by decide +kernel
theorem ex_refund : refundE lsH 1210 605 [(cardN, 500), (giftN, 105)] = 0 := by decide +kernel
theorem ex_refundL : refundL lsH 1210 605 [(cardN, 500), (giftN, 105)] = [((5, cardN), 500), ((5, giftN), 105), ((2, noName), -500), ((1, noName), -50), ((3, noName), -55)] := by decide +kernel
theorem ex_resale : resaleE 1100 lsH 1210 6 5 1 10 annN [(cardN, 1100)] = 0 := by decide +kernel
theorem ex_resaleL : resaleL 1100 lsH 1210 6 5 1 10 annN [(cardN, 1100)] = [((5, cardN), -1100), ((2, noName), 110), ((6, annN), 990)] := by decide +kernel
theorem ex_denied : resaleE 1201 lsH 1210 6 5 1 10 annN [(cardN, 1201)] = 15 := by decide +kernel
theorem ex_money : saleE lsH 1210 annN [(cardN, 1000)] = 19 := by decide +kernel
end Go.Proofs.Ytggmihnhdojepaa
