/- Written arguments, plainly: they are read back. -/
import Derived.Test.YtchoenfclfafiaaArgF
import Derived.Lib.Join
namespace Go.Proofs.Ytchoenfclfafiaa
open Go.RowKit

theorem urlB_cases (b : UInt8) : (urlB b = [b] ∧ b ≠ 43 ∧ b ≠ 37) ∨ (b = 32 ∧ urlB b = [43]) ∨ (urlB b = [37, hexU (b >>> 4), hexU (b &&& 15)] ∧ 0 ≤ digitI (hexU (b >>> 4)) ∧ 0 ≤ digitI (hexU (b &&& 15)) ∧ digitI (hexU (b >>> 4)) * 16 + digitI (hexU (b &&& 15)) = b.toNat) :=
  of_decide_eq_true (all_bytes (p := fun b => decide ((urlB b = [b] ∧ b ≠ 43 ∧ b ≠ 37) ∨ (b = 32 ∧ urlB b = [43]) ∨ (urlB b = [37, hexU (b >>> 4), hexU (b &&& 15)] ∧ 0 ≤ digitI (hexU (b >>> 4)) ∧ 0 ≤ digitI (hexU (b &&& 15)) ∧ digitI (hexU (b >>> 4)) * 16 + digitI (hexU (b &&& 15)) = b.toNat))) (by decide +kernel) b)
theorem urlDec_enc (l : List UInt8) : urlDecL (urlEncL l) = l := by
  induction l with
  | nil => rfl
  | cons b l ih =>
    have e : urlEncL (b :: l) = urlB b ++ urlEncL l := by simp [urlEncL]
    rw [e]
    unfold urlDecL at *
    rcases urlB_cases b with ⟨h, h1, h2⟩ | ⟨h1, h⟩ | ⟨h, h1, h2, h3⟩
    · have hs : urlStep b (urlEncL l) = ([b], 0) := by unfold urlStep; rw [if_neg h1, if_neg (fun h => h2 h.1)]
      rw [h, List.cons_append, List.nil_append, scan_cons, hs, List.drop_zero, ih]; rfl
    · have hs : urlStep 43 (urlEncL l) = ([32], 0) := by unfold urlStep; rw [if_pos rfl]
      rw [h, List.cons_append, List.nil_append, scan_cons, hs, List.drop_zero, ih, h1]; rfl
    · have hp : pairI (hexU (b >>> 4) :: hexU (b &&& 15) :: urlEncL l) = b.toNat := by
        rw [pairI_cons, if_neg (by omega), h3]
      have hs : urlStep 37 (hexU (b >>> 4) :: hexU (b &&& 15) :: urlEncL l) = ([b], 2) := by
        unfold urlStep
        rw [if_neg (by decide), if_pos ⟨rfl, by rw [hp]; omega⟩, hp, Int.toNat_natCast]
        simp
      rw [h, List.cons_append, List.cons_append, List.cons_append, List.nil_append, scan_cons, hs]
      show [b] ++ scan urlStep (urlEncL l) = _
      rw [ih]; rfl
theorem urlB_plain (b : UInt8) : (38 : UInt8) ∉ urlB b ∧ (61 : UInt8) ∉ urlB b :=
  of_decide_eq_true (all_bytes (p := fun b => decide ((38 : UInt8) ∉ urlB b ∧ (61 : UInt8) ∉ urlB b)) (by decide +kernel) b)
theorem urlEnc_plain (l : List UInt8) : (38 : UInt8) ∉ urlEncL l ∧ (61 : UInt8) ∉ urlEncL l := by
  constructor
  · intro h
    obtain ⟨b, _, h1⟩ := List.mem_flatMap.1 h
    exact (urlB_plain b).1 h1
  · intro h
    obtain ⟨b, _, h1⟩ := List.mem_flatMap.1 h
    exact (urlB_plain b).2 h1
theorem cut_first (c : UInt8) : ∀ (a b : List UInt8), c ∉ a → Lib.cut (a ++ c :: b) [c] = (a, b, true) := by
  intro a b h
  have key : ∀ a : List UInt8, c ∉ a → Lib.index (a ++ c :: b) [c] = (a.length : Int) := by
    intro a
    induction a with
    | nil => intro _; rw [List.nil_append, Lib.index]; simp [List.isPrefixOf]
    | cons x a ih =>
      intro h
      have h1 := ih (fun e => h (by simp [e]))
      rw [List.cons_append, index_cons_ne x c _ (fun e => h (by simp [e])), h1, if_neg (by rw [beq_iff_eq]; omega)]
      simp
  have h1 := key a h
  unfold Lib.cut
  rw [if_pos (by omega), h1]
  simp
def pieceP (x : Pair) : List UInt8 := urlEncL x.1.data.toList ++ 61 :: urlEncL x.2.data.toList
def writeP (l : List Pair) : List UInt8 := Lib.join (l.map pieceP) [38]
theorem piece_back (x : Pair) : argP (pieceP x) = x := by
  unfold argP pieceP
  rw [cut_first 61 _ _ (urlEnc_plain _).2]
  dsimp only
  rw [urlDec_enc, urlDec_enc, bs_eta, bs_eta]
theorem piece_plain (x : Pair) : (38 : UInt8) ∉ pieceP x := by
  unfold pieceP
  intro h
  rcases List.mem_append.1 h with h | h
  · exact (urlEnc_plain _).1 h
  · rcases List.mem_cons.1 h with h | h
    · exact absurd h (by decide)
    · exact (urlEnc_plain _).1 h
theorem splW_whole (c : UInt8) : ∀ w : List UInt8, c ∉ w → splL c w = [w]
  | [], _ => rfl
  | b :: w, h => by
    rw [splL, if_neg (fun e => h (by simp [e])), splW_whole c w (fun e => h (by simp [e]))]
theorem splW_join (c : UInt8) : ∀ ws : List (List UInt8), ws ≠ [] → (∀ w ∈ ws, c ∉ w) → splL c (Lib.join ws [c]) = ws
  | [], h, _ => absurd rfl h
  | [w], _, h => by rw [Lib.join_one]; exact splW_whole c w (h w (by simp))
  | w :: x :: r, _, h => by
    have ih := splW_join c (x :: r) (by simp) (fun y hy => h y (by simp [hy]))
    have e : Lib.join (w :: x :: r) [c] = w ++ c :: Lib.join (x :: r) [c] := by
      rw [Lib.join_cons, Lib.join_cons]
      simp [Lib.joinTail]
    rw [e, splL_append, ih, splW_whole c w (h w (by simp))]
    rfl
/-- What is written is read as it was. -/
theorem form_write (l : List Pair) : formP (writeP l) = l := by
  unfold formP writeP
  cases l with
  | nil => rfl
  | cons a l =>
    rw [splW_join 38 _ (by simp) fun w hw => by
      obtain ⟨x, _, rfl⟩ := List.mem_map.1 hw
      exact piece_plain x]
    unfold accP
    rw [List.filter_eq_self.2 fun w hw => by
      obtain ⟨x, _, rfl⟩ := List.mem_map.1 hw
      unfold pieceP
      cases urlEncL x.1.data.toList <;> rfl]
    rw [List.map_map]
    have : ∀ m : List Pair, m.map (argP ∘ pieceP) = m := fun m => by
      induction m with
      | nil => rfl
      | cons x m ih => rw [List.map_cons, ih]; show argP (pieceP x) :: m = _; rw [piece_back]
    exact this _
/-- How long the text is. -/
def bulkA (l : List Pair) : Nat := (l.map fun x => x.1.size + x.2.size + 2).sum
theorem write_len (l : List Pair) : (writeP l).length ≤ 3 * bulkA l := by
  unfold writeP bulkA
  have hp : ∀ x : Pair, (pieceP x).length + 1 ≤ 3 * (x.1.size + x.2.size + 2) := fun x => by
    unfold pieceP
    have h1 := urlEnc_len x.1.data.toList
    have h2 := urlEnc_len x.2.data.toList
    have e1 : x.1.data.toList.length = x.1.size := by simp
    have e2 : x.2.data.toList.length = x.2.size := by simp
    rw [List.length_append, List.length_cons]
    omega
  have ht : ∀ l : List Pair, (Lib.joinTail [38] (l.map pieceP)).length ≤ 3 * (l.map fun x => x.1.size + x.2.size + 2).sum := fun l => by
    induction l with
    | nil => simp [Lib.joinTail]
    | cons x r ih =>
      have h1 := hp x
      simp only [Lib.joinTail, List.map_cons, List.flatten_cons, List.length_append, List.length_cons, List.length_nil, List.sum_cons] at ih ⊢
      omega
  cases l with
  | nil => simp [Lib.join_nil]
  | cons x r =>
    have h1 := hp x
    have h2 := ht r
    rw [List.map_cons, Lib.join_cons, List.length_append, List.map_cons, List.sum_cons]
    omega
end Go.Proofs.Ytchoenfclfafiaa
