/- What a bound on the bulk says of an argument's parts. -/
import Derived.Test.YtchoenfclfafiaaRows
import Derived.Test.YtchoenfclfafiaaOpen
namespace Go.Proofs.Ytchoenfclfafiaa
open Go.RowKit

theorem part_le {H : Type} : ∀ {l : List (DataW H)} {d : DataW H}, d ∈ l → Rows.uptoBulk d ≤ Rows.uptoBulkAll l
  | [], _, h => by cases h
  | x :: r, d, h => by
    rw [Rows.uptoBulkAll]
    rcases List.mem_cons.1 h with rfl | h
    · omega
    · have := part_le h; omega
theorem bulk_pos {H : Type} (d : DataW H) : 1 ≤ Rows.uptoBulk d := by
  cases d with
  | lit x => cases x <;> simp [Rows.uptoBulk]
  | _ => simp [Rows.uptoBulk]
theorem bulk_count {H : Type} : ∀ l : List (DataW H), l.length ≤ Rows.uptoBulkAll l
  | [] => by simp [Rows.uptoBulkAll]
  | x :: r => by
    have h1 := bulk_pos x
    have h2 := bulk_count r
    rw [Rows.uptoBulkAll, List.length_cons]
    omega
theorem slice_bulk {H : Type} {l sp : List (DataW H)} : l.length + 1 ≤ Rows.uptoBulk (.slice l sp) := by
  have := bulk_count l
  rw [Rows.uptoBulk]
  omega
end Go.Proofs.Ytchoenfclfafiaa
