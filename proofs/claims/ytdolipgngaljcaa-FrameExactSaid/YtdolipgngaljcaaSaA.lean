/- The table of types. -/
import Derived.Test.YtdolipgngaljcaaGw10
import Derived.Test.YtdolipgngaljcaaProg
namespace Go.Proofs.Sa
open Go Go.Gw
noncomputable abbrev P : Program := Try.prog
noncomputable def tbl : List (Nat × TD) := [(3, .int .i64), (4, .bool), (5, .int .u8), (9, .str), (22, .slice 5 .u8), (24, .int .u32), (29, .int .u64), (32, .sliceR 22 1), (34, .arr 64 5 .u8), (41, .struct 2 [(0, 1), (1, 1)] [.int .i64 (0 : Int), .nils]), (51, .sliceR 41 2), (55, .slice 3 .i64), (62, .arr 32 5 .u8), (64, .ptr), (70, .arr 16 24 .u32), (72, .int .u64), (73, .arr 8 72 .u64), (76, .arr 80 72 .u64), (83, .arr 64 24 .u32), (85, .arr 8 24 .u32), (87, .arr 8 24 .u32), (90, .struct 10 [(0, 8), (8, 1), (9, 1)] [.arr .u32 8 (List.replicate 8 0), .nils, .int .i64 (0 : Int)]), (94, .slice 72 .u64), (97, .slice 24 .u32)]
noncomputable abbrev T : TypeId → Option TD := lookT tbl
theorem hT : TOk P T :=
  tOk_cons (⟨by kernel_rfl, by kernel_rfl⟩) <|
  tOk_cons (⟨by kernel_rfl, by kernel_rfl⟩) <|
  tOk_cons (⟨by kernel_rfl, by kernel_rfl⟩) <|
  tOk_cons (⟨by kernel_rfl, by kernel_rfl⟩) <|
  tOk_cons (⟨by kernel_rfl, by kernel_rfl, by kernel_rfl, by kernel_rfl⟩) <|
  tOk_cons (⟨by kernel_rfl, by kernel_rfl⟩) <|
  tOk_cons (⟨by kernel_rfl, by kernel_rfl⟩) <|
  tOk_cons (⟨by kernel_rfl, by kernel_rfl, by kernel_rfl, by kernel_rfl⟩) <|
  tOk_cons (⟨by kernel_rfl, by kernel_rfl, by kernel_rfl, by kernel_rfl, by kernel_rfl⟩) <|
  tOk_cons (⟨_, Try.underlying41, by kernel_rfl, fun _ => by kernel_rfl, by kernel_rfl, by simp [Leaf.ok, Leaf.keys]⟩) <|
  tOk_cons (⟨by kernel_rfl, by kernel_rfl, by kernel_rfl, by kernel_rfl⟩) <|
  tOk_cons (⟨by kernel_rfl, by kernel_rfl, by kernel_rfl, by kernel_rfl⟩) <|
  tOk_cons (⟨by kernel_rfl, by kernel_rfl, by kernel_rfl, by kernel_rfl, by kernel_rfl⟩) <|
  tOk_cons (⟨_, Try.underlying64, by kernel_rfl⟩) <|
  tOk_cons (⟨by kernel_rfl, by kernel_rfl, by kernel_rfl, by kernel_rfl, by kernel_rfl⟩) <|
  tOk_cons (⟨by kernel_rfl, by kernel_rfl⟩) <|
  tOk_cons (⟨by kernel_rfl, by kernel_rfl, by kernel_rfl, by kernel_rfl, by kernel_rfl⟩) <|
  tOk_cons (⟨by kernel_rfl, by kernel_rfl, by kernel_rfl, by kernel_rfl, by kernel_rfl⟩) <|
  tOk_cons (⟨by kernel_rfl, by kernel_rfl, by kernel_rfl, by kernel_rfl, by kernel_rfl⟩) <|
  tOk_cons (⟨by kernel_rfl, by kernel_rfl, by kernel_rfl, by kernel_rfl, by kernel_rfl⟩) <|
  tOk_cons (⟨by kernel_rfl, by kernel_rfl, by kernel_rfl, by kernel_rfl, by kernel_rfl⟩) <|
  tOk_cons (⟨_, Try.underlying90, by kernel_rfl, fun _ => by kernel_rfl, by kernel_rfl, by simp [Leaf.ok, Leaf.keys]⟩) <|
  tOk_cons (⟨by kernel_rfl, by kernel_rfl, by kernel_rfl, by kernel_rfl⟩) <|
  tOk_cons (⟨by kernel_rfl, by kernel_rfl, by kernel_rfl, by kernel_rfl⟩) <|
  tOk_nil
theorem hM : P.follows .mixedOrders = true := by kernel_rfl
end Go.Proofs.Sa
