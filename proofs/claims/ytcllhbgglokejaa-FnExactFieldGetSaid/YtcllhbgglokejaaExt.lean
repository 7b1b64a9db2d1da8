/- The name space of our own contracts. -/
namespace Go.Proofs.Ytcllhbgglokejaa.Ext
end Go.Proofs.Ytcllhbgglokejaa.Ext
namespace Go.Proofs.Ytcllhbgglokejaa.Glob
end Go.Proofs.Ytcllhbgglokejaa.Glob
