/- What is known of the memory that the program's variables take: internal/bytealg.MaxLen holds some number. -/
import Derived.Test.YtkkefapclohicaaDoorR4
namespace Go.Proofs.YtkkefapclohicaaDoor.R
instance theDoor : Door := ⟨fun w => ∃ m, w.cell? ⟨1, 0, none⟩ = some (.int .i64 m), fun b => b = 1,
  fun w b ⟨m, h⟩ hb => by subst hb; exact World.block_lt_of_cell? w _ h,
  fun w w' ⟨m, h⟩ hk => ⟨m, (World.cell?_of_block (hk 1 rfl)).trans h⟩⟩
end Go.Proofs.YtkkefapclohicaaDoor.R
