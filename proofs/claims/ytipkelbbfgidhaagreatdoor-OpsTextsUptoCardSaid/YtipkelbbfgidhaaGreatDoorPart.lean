/- A part's bulk. -/
import Derived.Test.YtipkelbbfgidhaaGreatDoorFrame
namespace Go.Proofs.YtipkelbbfgidhaaGreatDoor
open Go.RowKit

theorem part_le {H : Type} : ∀ {l : List (DataW H)} {d : DataW H}, d ∈ l → Rows.uptoBulk d ≤ Rows.uptoBulkAll l
  | [], _, h => by cases h
  | x :: r, d, h => by
    rw [Rows.uptoBulkAll]
    rcases List.mem_cons.1 h with rfl | h
    · omega
    · have := part_le h; omega
end Go.Proofs.YtipkelbbfgidhaaGreatDoor
