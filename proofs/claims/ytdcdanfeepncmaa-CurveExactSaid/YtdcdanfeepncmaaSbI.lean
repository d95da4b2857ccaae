import Derived.Test.YtdcdanfeepncmaaSbA
import Derived.Test.YtdcdanfeepncmaaGwI
namespace Go.Proofs.Sb
open Go Go.Gw
set_option maxRecDepth 100000
theorem bits_Add64_ok (x y c : Int) (r : Int × Int) (h : add64 x y c = some r) {pre : List (Nat × Ent)} : CallOk P 78 [.v (.one (.int .u64 x)), .v (.one (.int .u64 y)), .v (.one (.int .u64 c))] pre (.tup [.one (.int .u64 r.1), .one (.int .u64 r.2)]) [] :=
  add64_ok Try.func78 (by kernel_rfl) (by kernel_rfl) (by kernel_rfl) (by kernel_rfl) x y c r h
theorem bits_Sub64_ok (x y c : Int) (r : Int × Int) (h : sub64 x y c = some r) {pre : List (Nat × Ent)} : CallOk P 101 [.v (.one (.int .u64 x)), .v (.one (.int .u64 y)), .v (.one (.int .u64 c))] pre (.tup [.one (.int .u64 r.1), .one (.int .u64 r.2)]) [] :=
  sub64_ok Try.func101 (by kernel_rfl) (by kernel_rfl) (by kernel_rfl) (by kernel_rfl) x y c r h
end Go.Proofs.Sb
