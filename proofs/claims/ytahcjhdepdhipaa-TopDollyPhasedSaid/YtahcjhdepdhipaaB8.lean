/- Part of the proof: B8. -/
import Derived.Test.YtahcjhdepdhipaaB7
import Derived.Test.YtahcjhdepdhipaaGkMake
import Derived.Test.YtahcjhdepdhipaaGkFin
set_option linter.unusedSectionVars false
set_option linter.unusedVariables false
set_option linter.unusedSimpArgs false
namespace Go.Proofs.A1
open Go Go.SL

theorem leaving_c (nv ev : Value) (node : Int) (w : World) (h1 : nv.oneCell' = true) (h2 : ev.oneCell' = true) :
    Gives Try.prog 34 [.agg #[nv, ev], .int .i64 node] w [] (fun _ : Nat × Nat => True) (fun x => .func (.func 39) #[] #[.pointer (some ⟨x.1, 0, none⟩), .pointer (some ⟨x.2, 0, none⟩)])
      (fun x => [blk x.1 (.cells #[nv, ev] 37 (0, 0)), blk x.2 (.cells #[.int .i64 node] 3 (0, 0))]) := by
  refine gives_of_tr Try.func34 rfl rfl ?_
  (refine tr_seq ?_; refine tr_region ?_; refine tr_new (rk_box (Is.of rfl) rfl) rfl (fun _ _ => ?_); refine tr_new (rk_box (Is.of rfl) rfl) rfl (fun _ _ => ?_); refine tr_val (rk_assign (Is.of rfl)) rfl ?_; refine tr_nil ?_; refine tr_then ?_; refine tr_seq ?_; refine tr_region ?_; refine tr_val (rk_makeFunc' Iss.nil (Iss.cons (Is.of rfl) (Iss.cons (Is.of rfl) Iss.nil))) rfl ?_; refine tr_val (rk_assign (Is.of rfl)) rfl ?_; refine tr_nil ?_; refine tr_then ?_; refine tr_ret ?_)
  rename_i b2 hb2 b3 hb3
  first | with_reducible apply tr_retM | with_reducible apply tr_endM
  case he => exact ends1 rfl rfl
  case hR =>
    intro w' hm'
    exact gives_end (b2, b3) trivial (by exact Takes.cons (Take.there Take.here) (Takes.cons Take.here Takes.nil)) hm' rfl
end Go.Proofs.A1
