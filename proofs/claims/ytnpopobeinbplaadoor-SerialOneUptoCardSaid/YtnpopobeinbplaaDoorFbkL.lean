/- Chunks written and read again; in plain lists. -/
import Derived.Test.YtnpopobeinbplaaDoorFrmL
import Derived.Test.YtnpopobeinbplaaDoorHexL
namespace Go.Proofs.YtnpopobeinbplaaDoor
open Go.RowKit

def pieceC (d : List UInt8) : List UInt8 := hexF 6 d.length ++ 13 :: 10 :: (d ++ [13, 10])
def textC (ds : List (List UInt8)) : List UInt8 := ds.flatMap pieceC ++ [48, 13, 10, 13, 10]
def cutP : List Int → List UInt8 → List (List UInt8)
  | [], s => if s = [] then [] else [s]
  | n :: ns, s => if 0 < n ∧ s ≠ [] then s.take (min n s.length).toNat :: cutP ns (s.drop (min n s.length).toNat) else cutP ns s
theorem cutP_join : ∀ (ns : List Int) (s : List UInt8), (cutP ns s).flatten = s
  | [], s => by rw [cutP]; split <;> simp_all
  | n :: ns, s => by
    rw [cutP]
    split
    · rw [List.flatten_cons, cutP_join ns, List.take_append_drop]
    · exact cutP_join ns s
theorem cutP_some : ∀ (ns : List Int) (s : List UInt8), ∀ d ∈ cutP ns s, d ≠ []
  | [], s => by
    rw [cutP]
    split
    · intro d h; cases h
    · intro d h; rw [List.mem_singleton.1 h]; assumption
  | n :: ns, s => by
    rw [cutP]
    split
    · rename_i h
      intro d hd
      rcases List.mem_cons.1 hd with e | e
      · intro e2
        have h2 := congrArg List.length (e.symm.trans e2)
        have h3 : 0 < s.length := List.length_pos_iff.2 h.2
        rw [List.length_take, List.length_nil] at h2
        omega
      · exact cutP_some ns _ d e
    · exact cutP_some ns s
theorem hex_dig : ∀ (f n : Nat), n < 16 ^ (f + 1) → allDig (hexF f n)
  | 0, n, h => by
    have h : n < 16 := by simpa using h
    intro b hb
    rw [hexF, List.mem_singleton] at hb
    rw [hb, digitI_hex n h]; omega
  | f + 1, n, h => by
    intro b hb
    rw [hexF] at hb
    split at hb
    · rename_i h2
      rw [List.mem_singleton] at hb
      rw [hb, digitI_hex n h2]; omega
    · rcases List.mem_append.1 hb with h1 | h1
      · refine hex_dig f (n / 16) ?_ b h1
        rw [Nat.div_lt_iff_lt_mul (by decide)]
        rw [Nat.pow_succ] at h
        omega
      · rw [List.mem_singleton] at h1
        rw [h1, digitI_hex _ (Nat.mod_lt _ (by decide))]; omega
theorem hex_val (n : Nat) (h : n < 268435456) : hexV (hexF 6 n) = (n : Int) := by unfold hexV; rw [hex_num n h]; rfl
theorem piece_eval (d r : List UInt8) (room : Int) (hd : d.length < 268435456) (hr : (d.length : Int) ≤ room) :
    chunkR (pieceC d ++ r) room = ⟨d.length, 0, (pieceC d).length, d⟩ := by
  have hl := hex_len 6 d.length
  have hv := hex_val d.length hd
  have h := chunk_eval (hexF 6 d.length) d r room (hex_dig 6 d.length (by simpa using hd)) hl.1 hl.2 hv.symm (by rw [hv]; exact hr)
  have e : pieceC d ++ r = hexF 6 d.length ++ 13 :: 10 :: (d ++ 13 :: 10 :: r) := by unfold pieceC; simp
  rw [e, h, hv]
  unfold pieceC
  simp only [List.length_append, List.length_cons, List.length_nil]
  congr 1
  omega
theorem piece_big (d r : List UInt8) (room : Int) (hd : d.length < 268435456) (hr : room < (d.length : Int)) : (chunkR (pieceC d ++ r) room).e = 6 := by
  have hl := hex_len 6 d.length
  have hv := hex_val d.length hd
  have h := size_eval (hexF 6 d.length) (d ++ [13, 10] ++ r) (hex_dig 6 d.length (by simpa using hd)) hl.1 hl.2
  have e : pieceC d ++ r = hexF 6 d.length ++ 13 :: 10 :: (d ++ [13, 10] ++ r) := by unfold pieceC; simp
  unfold chunkR
  rw [e, h]
  dsimp only
  rw [if_neg (by decide), hv, if_pos hr]
theorem end_eval (r : List UInt8) (room : Int) (hr : 0 ≤ room) : chunkR ([48, 13, 10, 13, 10] ++ r) room = ⟨0, 0, 5, []⟩ := by
  have hv : hexV [48] = 0 := by decide
  have h := chunk_eval [48] [] r room (by intro b hb; rw [List.mem_singleton.1 hb]; decide) (by decide) (by decide) (by rw [hv]; rfl) (by rw [hv]; exact hr)
  rw [hv] at h
  exact h
/-- What was cut is read as it was, whatever stands behind. -/
theorem chunks_back : ∀ (ds : List (List UInt8)) (more : List UInt8) (room : Int), (∀ d ∈ ds, d ≠ [] ∧ d.length < 268435456) → (ds.flatten.length : Int) ≤ room → chunksL (textC ds ++ more) room = .inr (ds.flatten, (textC ds).length)
  | [], more, room, _, hr => by
    have e : textC [] ++ more = [48, 13, 10, 13, 10] ++ more := rfl
    have h := end_eval more room (by simpa using hr)
    rw [e, chunksL_end _ _ (by rw [h]) (by rw [h]), h]
    rfl
  | d :: ds, more, room, hd, hr => by
    have h0 := hd d (by simp)
    have hpos : 0 < d.length := List.length_pos_iff.2 h0.1
    rw [List.flatten_cons, List.length_append] at hr
    have e : textC (d :: ds) ++ more = pieceC d ++ (textC ds ++ more) := by unfold textC; rw [List.flatMap_cons]; simp
    have h := piece_eval d (textC ds ++ more) room h0.2 (by omega)
    rw [e, chunksL_more _ _ (by rw [h]) (by rw [h]; dsimp only; omega), h]
    dsimp only
    rw [List.drop_left, chunks_back ds more _ (fun x hx => hd x (by simp [hx])) (by omega)]
    have e2 : (textC (d :: ds)).length = (pieceC d).length + (textC ds).length := by unfold textC; rw [List.flatMap_cons, List.append_assoc, List.length_append]
    rw [preT, e2]
    rfl
theorem chunks_small : ∀ (ds : List (List UInt8)) (more : List UInt8) (room : Int), (∀ d ∈ ds, d ≠ [] ∧ d.length < 268435456) → 0 ≤ room → room < (ds.flatten.length : Int) → chunksL (textC ds ++ more) room = .inl 6
  | [], more, room, _, h0, hr => absurd hr (by simp; omega)
  | d :: ds, more, room, hd, h0, hr => by
    have h1 := hd d (by simp)
    have hpos : 0 < d.length := List.length_pos_iff.2 h1.1
    rw [List.flatten_cons, List.length_append] at hr
    have e : textC (d :: ds) ++ more = pieceC d ++ (textC ds ++ more) := by unfold textC; rw [List.flatMap_cons]; simp
    by_cases hc : room < (d.length : Int)
    · have h := piece_big d (textC ds ++ more) room h1.2 hc
      rw [e, chunksL_bad _ _ (by rw [h]; decide), h]
    · have h := piece_eval d (textC ds ++ more) room h1.2 (by omega)
      rw [e, chunksL_more _ _ (by rw [h]) (by rw [h]; dsimp only; omega), h]
      dsimp only
      rw [List.drop_left, chunks_small ds more _ (fun x hx => hd x (by simp [hx])) (by omega) (by omega)]
      rfl
theorem piece_len (d : List UInt8) : (pieceC d).length ≤ d.length + 11 := by
  have := hex_len 6 d.length
  unfold pieceC
  simp only [List.length_append, List.length_cons, List.length_nil]
  omega
end Go.Proofs.YtnpopobeinbplaaDoor
