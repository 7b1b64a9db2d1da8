/- The name space of our own contracts. -/
namespace Go.Proofs.Ytngillbkfblpoaa.Ext
end Go.Proofs.Ytngillbkfblpoaa.Ext
namespace Go.Proofs.Ytngillbkfblpoaa.Glob
end Go.Proofs.Ytngillbkfblpoaa.Glob
