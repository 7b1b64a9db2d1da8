/- The name space of our own contracts. -/
namespace Go.Proofs.Ytdiogjldbhoiiaa.Ext
end Go.Proofs.Ytdiogjldbhoiiaa.Ext
namespace Go.Proofs.Ytdiogjldbhoiiaa.Glob
end Go.Proofs.Ytdiogjldbhoiiaa.Glob
