/- The walks of slices.Equal at arguments (equal rows), args.Path, args.Query. -/
import Derived.Test.YtchoenfclfafiaaArgF
import Derived.Laws.StructEq
import Derived.BigRegion
namespace Go.Proofs.Ytchoenfclfafiaa
open Go.RowKit

theorem run_arg_same (a b : ByteArray) (w : World) : (binOp .neq 43 (.agg #[.string a, .string b]) (.agg #[.string a, .string b])).run Try.prog w = .ok (.bool false) w := by
  rw [run_neq_struct, run_equalIn_agg w 9999 43 _ _ (by kernel_rfl) (by kernel_rfl)]
  have hf : (Try.prog.fieldsOf 43).toList.map (fun f => (f.name, f.type, f.offset)) = [("Name", 9, 0), ("Value", 9, 1)] := by kernel_rfl
  match hq : (Try.prog.fieldsOf 43).toList with
  | [f0, f1] =>
    rw [hq] at hf
    simp only [List.map_cons, List.map_nil, List.cons.injEq, Prod.mk.injEq, and_true] at hf
    obtain ⟨⟨n0, t0, o0⟩, n1, t1, o1⟩ := hf
    have hp : Try.prog.plainKey 9 = true := by kernel_rfl
    simp only [Op.eqFields, n0, n1, t0, t1, o0, o1, Sem.run_bind, Sem.run_ite]
    rw [if_pos (by decide)]
    rw [run_part_plain w hp (xs := #[.string a, .string b]) (off := 0) (v := .string a) rfl]
    simp only [Result.andThen_ok]
    rw [run_part_plain w hp (xs := #[.string a, .string b]) (off := 0) (v := .string a) rfl]
    simp only [Result.andThen_ok]
    rw [run_equalIn_string w 9998 9 a a Try.underlying9]
    simp only [Result.andThen_ok, beq_self_eq_true]
    rw [if_neg (by decide)]
    rw [run_part_plain w hp (xs := #[.string a, .string b]) (off := 1) (v := .string b) rfl]
    simp only [Result.andThen_ok]
    rw [run_part_plain w hp (xs := #[.string a, .string b]) (off := 1) (v := .string b) rfl]
    simp only [Result.andThen_ok]
    rw [run_equalIn_string w 9998 9 b b Try.underlying9]
    simp
  | [] => rw [hq] at hf; cases hf
  | [_] => rw [hq] at hf; simp at hf
  | _ :: _ :: _ :: _ => rw [hq] at hf; simp at hf

set_option maxRecDepth 100000 in
set_option maxHeartbeats 800000 in
theorem EqualA_yes (l : List Pair) (A1 A2 : Option Addr) (c1 c2 : Nat) (w : World) (h1 : Sl w w.heap.size 2 A1 l.length (l.flatMap cellsA)) (h2 : Sl w w.heap.size 2 A2 l.length (l.flatMap cellsA)) (hl : l.length ≤ 4398046511104) :
    Calls Try.prog 19 #[.slice A1 l.length c1, .slice A2 l.length c2] w fun e w' => e = .returned (.bool true) ∧ Below w.heap.size w w' := by
  have hsame := fun a b w => run_arg_same a b w
  generalize hn : l.length = n at *
  have HN := Lib.hid hn
  clear hn
  go_enter Try.func19, Try.ntmps19
  go_wp2_with fail
  go_loopw [13] (fun i wr => ∃ k : Nat, k ≤ n ∧ i = .int .i64 k ∧ Below w.heap.size w wr) (fun i _ => n - (intOf i).toNat)
  case atStart => exact ⟨0, Nat.zero_le _, rfl, Below.refl _ _⟩
  case round =>
    obtain ⟨k, hk, rfl, hb⟩ := hrel
    by_cases hlt : k < n
    · have q1 : k < l.length := by rw [HN.out]; exact hlt
      obtain ⟨b, off, rfl, hbB, x0, x1⟩ := arg_at (h1.below hb) k q1
      obtain ⟨b', off', rfl, hbB', y0, y1⟩ := arg_at (h2.below hb) k q1
      generalize l[k] = X at *
      obtain ⟨p, q⟩ := X
      dsimp only at x0 x1 y0 y1
      have i1 : (k : Int) < (n : Int) := by omega
      have i2 : IntKind.i64.wrap ((k : Int) + 1) = (k : Int) + 1 := IntWalk.i64_in _ (by omega)
      have i3 : (0 : Int) ≤ (k : Int) := by omega
      have HBB := Lib.hid hb
      clear hb
      go_wp2_with fail
      go_quiet (fail)
      go_wp2_with fail
      exact ⟨⟨k + 1, by omega, rfl, below_drewN HBB.out nq⟩, by dsimp only [intOf]; omega⟩
    · obtain rfl : k = n := by omega
      go_wp2_with fail
      go_ret
      exact ⟨rfl, hb⟩

end Go.Proofs.Ytchoenfclfafiaa
