/- Which lists of tokens are the same: for all two lists of tokens the law quadratlaw04.TokenSames gives true. No conditions. -/
import Derived.Test.YthdklcpkoeehnaaDoorQG3
import Derived.Test.YthdklcpkoeehnaaDoorCards
namespace Go.Q
open Go Go.Proofs Go.RowKit
open Go.Proofs.YthdklcpkoeehnaaDoor
set_option maxRecDepth 100000
theorem tokenSames_card : Rows.TokenSamesCardSaid :=
  Claim7.holds_tied_plain_at .later [] [.data, .data, .data, .data, .sentinel, .sentinel, .pinned] true (true, "ca2674de3265fb640e4b8592fb1aefc1d351eb04f6ecb6631ddc181c7c22d74c") true
    tokenSames_holds (fun _ h => by cases h) (by kernel_rfl) (fun _ h => by cases h) tokenSames_row_tie rfl ⟨rfl, rfl⟩ (by kernel_rfl) rfl
    (fun f fn hf hfn => by
      obtain rfl : f = 4 := Option.some.inj ((show Tryd.prog.funcNamed "quadrat/quadratlaw04.TokenSames" = some 4 by kernel_rfl).symm.trans hf) |>.symm
      obtain rfl : fn = Tryd.f4 := (Option.some.inj (Tryd.func4.symm.trans hfn)).symm
      exact ⟨by kernel_rfl, fun j t ht => by
        rw [tryd_params] at ht
        have h3 : t = 23 := by
          rcases j with _ | _ | j
          · simpa using ht.symm
          · simpa using ht.symm
          · simp at ht
        subst h3
        exact (show Tryd.prog.wantsStandIn 23 = false by kernel_rfl)⟩)
    (by kernel_rfl)
end Go.Q
namespace Go.Proofs.YthdklcpkoeehnaaDoor
theorem tokenSames_proved : Rows.TokenSamesCardSaid := Go.Q.tokenSames_card
end Go.Proofs.YthdklcpkoeehnaaDoor
#print axioms Go.Proofs.YthdklcpkoeehnaaDoor.tokenSames_proved
