/- The table of types. -/
import Derived.Test.YtdcdanfeepncmaaGw10
import Derived.Test.YtdcdanfeepncmaaProg
namespace Go.Proofs.Sb
open Go Go.Gw
noncomputable abbrev P : Program := Try.prog
noncomputable def tbl : List (Nat × TD) := [(3, .int .i64), (4, .bool), (5, .int .u8), (22, .arr 32 5 .u8), (27, .int .u64), (29, .int .u64), (30, .arr 4 29 .u64), (31, .arr 4 29 .u64), (38, .arr 64 5 .u8), (40, .slice 5 .u8), (59, .struct 16 [(0, 4), (4, 4), (8, 4), (12, 4)] [.arr .u64 4 (List.replicate 4 0), .arr .u64 4 (List.replicate 4 0), .arr .u64 4 (List.replicate 4 0), .arr .u64 4 (List.replicate 4 0)]), (63, .arr 4 29 .u64), (70, .arr 5 29 .u64), (71, .arr 5 29 .u64), (75, .arr 8 29 .u64), (87, .struct 20 [(0, 5), (5, 5), (10, 5), (15, 5)] [.arr .u64 5 (List.replicate 5 0), .arr .u64 5 (List.replicate 5 0), .arr .u64 5 (List.replicate 5 0), .arr .u64 5 (List.replicate 5 0)]), (98, .arr 9 29 .u64)]
noncomputable abbrev T : TypeId → Option TD := lookT tbl
theorem hT : TOk P T :=
  tOk_cons (⟨by kernel_rfl, by kernel_rfl⟩) <|
  tOk_cons (⟨by kernel_rfl, by kernel_rfl⟩) <|
  tOk_cons (⟨by kernel_rfl, by kernel_rfl⟩) <|
  tOk_cons (⟨by kernel_rfl, by kernel_rfl, by kernel_rfl, by kernel_rfl, by kernel_rfl⟩) <|
  tOk_cons (⟨by kernel_rfl, by kernel_rfl⟩) <|
  tOk_cons (⟨by kernel_rfl, by kernel_rfl⟩) <|
  tOk_cons (⟨by kernel_rfl, by kernel_rfl, by kernel_rfl, by kernel_rfl, by kernel_rfl⟩) <|
  tOk_cons (⟨by kernel_rfl, by kernel_rfl, by kernel_rfl, by kernel_rfl, by kernel_rfl⟩) <|
  tOk_cons (⟨by kernel_rfl, by kernel_rfl, by kernel_rfl, by kernel_rfl, by kernel_rfl⟩) <|
  tOk_cons (⟨by kernel_rfl, by kernel_rfl, by kernel_rfl, by kernel_rfl⟩) <|
  tOk_cons (⟨_, Try.underlying59, by kernel_rfl, fun _ => by kernel_rfl, by kernel_rfl, by simp [Leaf.ok, Leaf.keys]⟩) <|
  tOk_cons (⟨by kernel_rfl, by kernel_rfl, by kernel_rfl, by kernel_rfl, by kernel_rfl⟩) <|
  tOk_cons (⟨by kernel_rfl, by kernel_rfl, by kernel_rfl, by kernel_rfl, by kernel_rfl⟩) <|
  tOk_cons (⟨by kernel_rfl, by kernel_rfl, by kernel_rfl, by kernel_rfl, by kernel_rfl⟩) <|
  tOk_cons (⟨by kernel_rfl, by kernel_rfl, by kernel_rfl, by kernel_rfl, by kernel_rfl⟩) <|
  tOk_cons (⟨_, Try.underlying87, by kernel_rfl, fun _ => by kernel_rfl, by kernel_rfl, by simp [Leaf.ok, Leaf.keys]⟩) <|
  tOk_cons (⟨by kernel_rfl, by kernel_rfl, by kernel_rfl, by kernel_rfl, by kernel_rfl⟩) <|
  tOk_nil
theorem hM : P.follows .mixedOrders = true := by kernel_rfl
end Go.Proofs.Sb
