/- The program's Reason returns what the reference's returns, for every status. -/
import Derived.Test.YtdiogjldbhoiiaaPFnExactReasonx1
import Derived.Test.YtdiogjldbhoiiaaDom
namespace Go.Proofs.Ytdiogjldbhoiiaa.Pure
open Go.RowKit Go.Proofs.Ytdiogjldbhoiiaa.PFnExactReason Go.Proofs.YtdiogjldbhoiiaaW.PrintWords Go.Proofs.YtdiogjldbhoiiaaW.PrintLast Go.Proofs.YtdiogjldbhoiiaaW.PrintMore Go.Proofs.Ytdiogjldbhoiiaa.Aux Go.Proofs.Ytdiogjldbhoiiaa.Dom


theorem FnExactReason : laws_FnExactReason.Pure := by
  intro a _
  refine ⟨20, ?_⟩
  by_cases h1 : a = 200
  · subst h1; kernel_rfl
  by_cases h2 : a = 203
  · subst h2; kernel_rfl
  by_cases h3 : a = 204
  · subst h3; kernel_rfl
  by_cases h4 : a = 300
  · subst h4; kernel_rfl
  by_cases h5 : a = 301
  · subst h5; kernel_rfl
  by_cases h6 : a = 304
  · subst h6; kernel_rfl
  by_cases h7 : a = 400
  · subst h7; kernel_rfl
  by_cases h8 : a = 404
  · subst h8; kernel_rfl
  by_cases h9 : a = 410
  · subst h9; kernel_rfl
  by_cases h10 : a = 502
  · subst h10; kernel_rfl
  by_cases h11 : a = 504
  · subst h11; kernel_rfl
  have e : impl_Reason.f a = some (⟨#[83, 116, 97, 116, 117, 115]⟩ : ByteArray) := by
    simp only [impl_Reason.f, if_neg h1, if_neg h2, if_neg h3, if_neg h4, if_neg h5, if_neg h6, if_neg h7, if_neg h8, if_neg h9, if_neg h10, if_neg h11]
  have e2 : spec_Reason.f 20 a = some (⟨#[83, 116, 97, 116, 117, 115]⟩ : ByteArray) := by
    simp only [spec_Reason.f, spec_Reason.l0]
    simp [rd, wrap64, Ne.symm h1, Ne.symm h2, Ne.symm h3, Ne.symm h4, Ne.symm h5, Ne.symm h6, Ne.symm h7, Ne.symm h8, Ne.symm h9, Ne.symm h10, Ne.symm h11]
  unfold laws_FnExactReason.f
  rw [e, e2]
  simp only [Option.bind_some, if_true]

end Go.Proofs.Ytdiogjldbhoiiaa.Pure
