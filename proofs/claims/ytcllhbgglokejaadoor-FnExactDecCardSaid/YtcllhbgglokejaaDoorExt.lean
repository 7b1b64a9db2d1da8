/- The name space of our own contracts. -/
namespace Go.Proofs.YtcllhbgglokejaaDoor.Ext
end Go.Proofs.YtcllhbgglokejaaDoor.Ext
namespace Go.Proofs.YtcllhbgglokejaaDoor.Glob
end Go.Proofs.YtcllhbgglokejaaDoor.Glob
