/- The name space of our own contracts. -/
namespace Go.Proofs.YtjldfmkpdkhnnaaDoor.Ext
end Go.Proofs.YtjldfmkpdkhnnaaDoor.Ext
namespace Go.Proofs.YtjldfmkpdkhnnaaDoor.Glob
end Go.Proofs.YtjldfmkpdkhnnaaDoor.Glob
