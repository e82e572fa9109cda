/- The walk of NetPlays. -/
import Derived.Test.YtnkahibddhchlaaRfU
import Derived.Deep.CutBlock
import Derived.Deep.CutRange
namespace Go.Proofs.Ytnkahibddhchlaa
open Go.RowKit Go.Shelf
set_option linter.unusedVariables false

section
variable {p y : Nat} {s : NSt} {L : List Pc} {w : World}
theorem do_c (H : Bth p s y s L w) (ht : Tok 900000000 s.t) (x : OpI) (hop : ∀ V, SL V L → OpOk V x) (hbl : x.b.bs.length ≤ 1100) :
    Calls Try.prog 23 #[ptrV p, ptrV y, .agg (opV x).toArray] w fun e w' => ∃ p', e = .returned (.tuple #[ptrV p', .bool true]) ∧ Bth p' (s.play x) y (s.play x) L w' := by
  by_cases h0 : x.kind = 0
  · exact do_send H ht x hop h0 hbl
  by_cases h1 : x.kind = 1
  · cases hh : s.has x.fr x.dst x.at' with
    | true => exact do_deliver_yes H ht x hop h1 hh
    | false => exact do_deliver_no H ht x hop h1 hh
  by_cases h2 : x.kind = 2
  · exact do_drop H ht x hop h2
  by_cases h3 : x.kind = 3
  · exact do_double H ht x hop h3
  by_cases h4 : x.kind = 4
  · exact do_flip H ht x hop h4
  by_cases h5 : x.kind = 5
  · exact do_clear H ht x hop h5
  by_cases h6 : x.kind = 6
  · cases hh : s.has x.fr x.dst x.at' with
    | true => exact do_peek_yes H ht x hop h6 hh
    | false => exact do_peek_no H ht x hop h6 hh
  by_cases h7 : x.kind = 7
  · exact do_len H ht x hop h7
  by_cases h8 : x.kind = 8
  · exact do_sum H ht x hop h8
  by_cases h9 : x.kind = 9
  · exact do_copy H ht x h9
  · exact do_none H x h0 h1 h2 h3 h4 h5 h6 h7 h8 h9
end
end Go.Proofs.Ytnkahibddhchlaa
