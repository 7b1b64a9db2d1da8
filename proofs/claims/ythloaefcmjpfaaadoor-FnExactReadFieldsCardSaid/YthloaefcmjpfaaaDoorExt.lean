/- The name space of our own contracts. -/
namespace Go.Proofs.YthloaefcmjpfaaaDoor.Ext
end Go.Proofs.YthloaefcmjpfaaaDoor.Ext
namespace Go.Proofs.YthloaefcmjpfaaaDoor.Glob
end Go.Proofs.YthloaefcmjpfaaaDoor.Glob
