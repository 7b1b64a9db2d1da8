/- Every constant that the program names has the value that the law names. -/
import Derived.Test.YtdiogjldbhoiiaaPFnExactConstantsx1
import Derived.Test.YtdiogjldbhoiiaaDom
namespace Go.Proofs.Ytdiogjldbhoiiaa.Pure
open Go.RowKit Go.Proofs.Ytdiogjldbhoiiaa.PFnExactConstants Go.Proofs.YtdiogjldbhoiiaaW.PrintWords Go.Proofs.YtdiogjldbhoiiaaW.PrintLast Go.Proofs.YtdiogjldbhoiiaaW.PrintMore Go.Proofs.Ytdiogjldbhoiiaa.Aux Go.Proofs.Ytdiogjldbhoiiaa.Dom


theorem FnExactConstants : laws_FnExactConstants.Pure := rfl

end Go.Proofs.Ytdiogjldbhoiiaa.Pure
