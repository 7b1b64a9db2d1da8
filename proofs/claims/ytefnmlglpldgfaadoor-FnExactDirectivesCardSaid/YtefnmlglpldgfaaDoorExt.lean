/- The name space of our own contracts. -/
namespace Go.Proofs.YtefnmlglpldgfaaDoor.Ext
end Go.Proofs.YtefnmlglpldgfaaDoor.Ext
namespace Go.Proofs.YtefnmlglpldgfaaDoor.Glob
end Go.Proofs.YtefnmlglpldgfaaDoor.Glob
