/- Entities, plainly. -/
import Derived.Test.YtdbipccopijgeaaDoorCodL
namespace Go.Proofs.YtdbipccopijgeaaDoor

def entNum (o : Option Int) (e : Nat) : UInt8 × Nat := match o with
  | some n => if 255 < n then (0, 0) else (UInt8.ofNat n.toNat, e + 1)
  | none => (0, 0)
def entBody (l : List UInt8) (e : Nat) : UInt8 × Nat :=
  if Lib.hasPrefix ((l.take e).drop 2) [120] = true then (if ((l.take e).drop 2).length ≤ 3 then entNum (numL 16 7 (((l.take e).drop 2).drop 1)) e else (0, 0))
  else if ((l.take e).drop 2).length ≤ 3 then entNum (numL 10 9 ((l.take e).drop 2)) e else (0, 0)
def entL (l : List UInt8) : UInt8 × Nat :=
  if Lib.hasPrefix l [38, 108, 116, 59] = true then (60, 4) else if Lib.hasPrefix l [38, 103, 116, 59] = true then (62, 4) else if Lib.hasPrefix l [38, 97, 109, 112, 59] = true then (38, 5)
  else if Lib.hasPrefix l [38, 113, 117, 111, 116, 59] = true then (34, 6) else if Lib.indexByte (l.take 7) 59 < 0 ∨ Lib.hasPrefix l [38, 35] = false then (0, 0) else entBody l (Lib.indexByte (l.take 7) 59).toNat
def htmlStep (b : UInt8) (r : List UInt8) : List UInt8 × Nat :=
  if b = 38 ∧ 0 < (entL (38 :: r)).2 then ([(entL (38 :: r)).1], (entL (38 :: r)).2 - 1) else ([b], 0)
def htmlDecL (l : List UInt8) : List UInt8 := scan htmlStep l

theorem numGo_range (base : Int) (hb : 2 ≤ base ∧ base ≤ 16) : ∀ (l : List UInt8) (n r : Int), 0 ≤ n → numGo base l n = some r → 0 ≤ r
  | [], n, r, h0, h => by cases h; exact h0
  | b :: l, n, r, h0, h => by
    unfold numGo at h
    split at h
    · cases h
    · rename_i hc
      have hm : 0 ≤ n * base := Int.mul_nonneg h0 (by omega)
      exact numGo_range base hb l _ r (by omega) h
theorem numL_range (base : Int) (most : Nat) (hb : 2 ≤ base ∧ base ≤ 16) (l : List UInt8) (r : Int) (h : numL base most l = some r) : 0 ≤ r := by
  unfold numL at h
  split at h
  · cases h
  · exact numGo_range base hb l 0 r (Int.le_refl 0) h

theorem hasPrefix_len {l p : List UInt8} (h : Lib.hasPrefix l p = true) : p.length ≤ l.length := by
  unfold Lib.hasPrefix at h
  obtain ⟨t, rfl⟩ := List.isPrefixOf_iff_prefix.1 h
  simp
theorem index_take {l : List UInt8} {c : UInt8} {n : Nat} (h : 0 ≤ Lib.indexByte (l.take n) c) : (Lib.indexByte (l.take n) c).toNat < n ∧ (Lib.indexByte (l.take n) c).toNat < l.length ∧ l[(Lib.indexByte (l.take n) c).toNat]? = some c := by
  obtain ⟨k, hk⟩ := Int.eq_ofNat_of_zero_le h
  obtain ⟨h1, _⟩ := Lib.indexByte_some hk
  rw [hk, Int.toNat_natCast]
  have h2 := (List.getElem?_eq_some_iff.1 h1).1
  rw [List.length_take] at h2
  rw [List.getElem?_take, if_pos (by omega)] at h1
  exact ⟨by omega, by omega, h1⟩
theorem ent_end {l : List UInt8} (h : 0 ≤ Lib.indexByte (l.take 7) 59) (hp : Lib.hasPrefix l [38, 35] = true) : 2 ≤ (Lib.indexByte (l.take 7) 59).toNat := by
  obtain ⟨_, _, h3⟩ := index_take h
  unfold Lib.hasPrefix at hp
  obtain ⟨t, rfl⟩ := List.isPrefixOf_iff_prefix.1 hp
  generalize (Lib.indexByte (([38, 35] ++ t).take 7) 59).toNat = e at *
  match e, h3 with
  | 0, h3 => simp at h3
  | 1, h3 => simp at h3
  | e + 2, _ => omega

theorem entL_le (l : List UInt8) : (entL l).2 ≤ l.length := by
  unfold entL
  split
  · rename_i h; exact hasPrefix_len h
  split
  · rename_i h; exact hasPrefix_len h
  split
  · rename_i h; exact hasPrefix_len h
  split
  · rename_i h; exact hasPrefix_len h
  split
  · exact Nat.zero_le _
  · rename_i h
    have hi : 0 ≤ Lib.indexByte (l.take 7) 59 := by
      have := not_or.1 h
      omega
    obtain ⟨_, h2, _⟩ := index_take hi
    have hn : ∀ o e, e + 1 ≤ l.length → (entNum o e).2 ≤ l.length := fun o e he => by
      unfold entNum
      split
      · split
        · exact Nat.zero_le _
        · exact he
      · exact Nat.zero_le _
    unfold entBody
    (repeat' split) <;> first | exact hn _ _ (by omega) | exact Nat.zero_le _

theorem htmlDec_a (t : List UInt8) : htmlDecL (97 :: t) = 97 :: htmlDecL t := by
  unfold htmlDecL
  rw [scan_cons]
  have : htmlStep 97 t = ([97], 0) := by unfold htmlStep; rw [if_neg (fun h => absurd h.1 (by decide))]
  rw [this]; rfl

end Go.Proofs.YtdbipccopijgeaaDoor
