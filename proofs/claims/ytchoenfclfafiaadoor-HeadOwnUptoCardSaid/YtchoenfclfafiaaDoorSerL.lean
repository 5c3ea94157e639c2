/- A head stripped: plainly; an append that tells where its row lies. -/
import Derived.Test.YtchoenfclfafiaaDoorHedY
import Derived.Test.YtchoenfclfafiaaDoorMem2
import Derived.Test.YtchoenfclfafiaaDoorFOf
import Derived.Test.YtchoenfclfafiaaDoorArgL
import Derived.Laws.OwnMore
namespace Go.Proofs.YtchoenfclfafiaaDoor
open Go.RowKit

section
variable {P : Program} {w : World}
theorem append_where (base : Nat) (t ty e : TypeId) (i : TypeInfo) (z : Value) (size bytes : Nat) (ht : P.underlying t = some (.slice e)) (hi : P.info? e = some i) (hz : i.zero = some z)
    (hsize : i.size = size) (hby : i.bytes = bytes)
    (v : Value) (n : Nat) (xs : List Value) (hown : w.ownsRow base e size v n xs) (hn : 0 < n)
    (a : Addr) (m c : Nat) (news : List Value) (hl : news.length = m * size) (hnews : ∀ j u, news[j]? = some u → w.cell? (a.add j) = some u) (h1 : ∀ u ∈ news, u.oneCell' = true)
    (h63 : n + m ≤ maxLen) (hbytes : (n + m) * bytes ≤ 140737488355328) {v' : Value} {w' : World} (hr : (Builtin.append_ #[t, t] ty #[v, .slice (some a) m c]).run P w = .ok v' w') :
    ∀ k, v'.ownBlock = some k → v.ownBlock = some k ∨ w.heap.size ≤ k := by
  subst hsize
  subst hby
  have hsmall : n + m ≤ 9223372036854775807 := by simp only [maxLen] at h63; omega
  rcases hown.2 with ⟨rfl, rfl⟩ | ⟨g, cap, cur, rfl, hbg, hg, hnc, hcm, hcs, htake⟩
  · omega
  · by_cases hroom : n + m ≤ cap
    · have hfit : n * i.size + news.length ≤ cur.size := by rw [hl, hcs, ← Nat.add_mul]; exact Nat.mul_le_mul_right _ hroom
      have hr2 := run_append_room (P := P) w t ty e i ht hi g n cap cur hg a m c news hl hnews h1 hroom hfit
      rw [hr] at hr2
      injection hr2 with h2 _
      subst h2
      exact fun k hk => .inl hk
    · have holds : ∀ j u, xs[j]? = some u → w.cell? ((⟨g, 0, none⟩ : Addr).add j) = some u := hown.cells (g := g) rfl
      have hr2 := run_append_grow (P := P) w t ty e i z ht hi hz ⟨g, 0, none⟩ n cap xs hown.1 holds a m c news hl hnews (by omega) (by omega) (growslice_fits (by omega) hbytes)
      rw [hr] at hr2
      injection hr2 with h2 _
      subst h2
      intro k hk
      simp only [Value.ownBlock, Option.some.injEq] at hk
      exact .inr (by omega)
end
section
variable {ops : Array Oper} {rest : List Oper} {o : Oper} {a : Act} {Q : Exit → Act → World → Prop} {w : World}
theorem wpList_append_sw (hgd : o.guard = none) (s x : Operand) (ho : o.op = .call { callee := .builtin .append, args := #[s, x], argTypes := #[86, 86] })
    (base : Nat) (v : Value) (l : List ByteArray) (hs : a.eval s = v) (hown : OwnS w base v l) (h0 : 0 < l.length) (hbase : base ≤ w.heap.size)
    (new : ByteArray) (g0 : Nat) (hg0 : w.heap.size = g0) (c : Nat) (hx : a.eval x = .slice (some ⟨g0, 0, none⟩) 1 c)
    (hbytes : l.length ≤ 4194304)
    (h : ∀ v' w', OwnS w' base v' (l ++ [new]) → w.grownBy w' v.ownBlock → (∀ k, v'.ownBlock = some k → v.ownBlock = some k ∨ w.heap.size ≤ k) → wpList Tryd.prog ops Q rest (a.put o.dst v') w') :
    wpList Tryd.prog ops Q (o :: rest) a (w.alloc (.cells #[.string new] 9)) := by
  subst hg0
  obtain ⟨i0, hi, hz0, hz1, hz2⟩ := info_parts info_str
  refine wpList_plain hgd fun K hK => ?_
  have hown2 := World.ownsRow.alloc hown (.cells #[.string new] 9)
  have hnews := cells_new w [.string new] 9
  obtain ⟨v', w', hr, h2, h3, _⟩ := run_append_own (P := Tryd.prog) (w.alloc (.cells #[.string new] 9)) base 86 o.type 9 i0 (.string ByteArray.empty) 1 16 Tryd.underlying86 hi hz0 hz1 hz2 rfl (by decide) v l.length (l.map Value.string) hown2
    ⟨w.heap.size, 0, none⟩ 1 c [.string new] rfl hnews (fun u hu => by rw [List.mem_singleton.1 hu]; rfl) (by unfold maxLen; omega) (by omega) (by simp; omega)
  have hwh := append_where (P := Tryd.prog) (w := w.alloc (.cells #[.string new] 9)) base 86 o.type 9 i0 (.string ByteArray.empty) 1 16 Tryd.underlying86 hi hz0 hz1 hz2 v l.length (l.map Value.string) hown2 h0
    ⟨w.heap.size, 0, none⟩ 1 c [.string new] rfl hnews (fun u hu => by rw [List.mem_singleton.1 hu]; rfl) (by unfold maxLen; omega) (by omega) hr
  unfold Oper.wp execOp
  simp only [ho, resolve, invoke, builtin, Sem.run_bind, Sem.run_pure, Result.andThen_ok, List.map_toArray, List.map_cons, List.map_nil, hs, hx, hr]
  refine hK _ _ (h v' w' (by unfold OwnS; rw [List.length_append, List.map_append]; exact h2) (only_trans (World.grownBy_alloc w _ _) h3) fun k hk => ?_)
  rcases hwh k hk with h | h
  · exact .inl h
  · exact .inr (by rw [World.size_alloc] at h; omega)
end

/-! Plainly. -/
def connN : ByteArray := ByteArray.mk #[99, 111, 110, 110, 101, 99, 116, 105, 111, 110]
def hopsB : List ByteArray := [connN, ByteArray.mk #[107, 101, 101, 112, 45, 97, 108, 105, 118, 101], ByteArray.mk #[112, 114, 111, 120, 121, 45, 99, 111, 110, 110, 101, 99, 116, 105, 111, 110], ByteArray.mk #[116, 101],
  ByteArray.mk #[116, 114, 97, 105, 108, 101, 114], ByteArray.mk #[116, 114, 97, 110, 115, 102, 101, 114, 45, 101, 110, 99, 111, 100, 105, 110, 103], ByteArray.mk #[117, 112, 103, 114, 97, 100, 101], ByteArray.mk #[99, 111, 110, 116, 101, 110, 116, 45, 108, 101, 110, 103, 116, 104]]
def pieceS (v : ByteArray) : List ByteArray := (splL 44 v.data.toList).map fun x => bs (lowerL (trimL x))
def dropB (fs : List PairV) : List ByteArray := hopsB ++ (getL fs connN).flatMap pieceS
def lowN (f : PairV) : ByteArray := bs (lowerL f.1.data.toList)
def keepB (fs : List PairV) (f : PairV) : Bool := !(Lib.containsS (dropB fs) (lowN f))
def stripF (fs : List PairV) : List PairV := fs.filter (keepB fs)
structure StripOk (fs : List PairV) : Prop where
  n : fs.length ≤ 4194304
  sz : ∀ f ∈ fs, f.1.size ≤ 4194304 ∧ f.2.size ≤ 4194304
  drop : (dropB fs).length ≤ 4194304
theorem strip_snoc (fs : List PairV) (k : Nat) (h : k < fs.length) : (fs.take (k + 1)).filter (keepB fs) = (fs.take k).filter (keepB fs) ++ if Lib.containsS (dropB fs) (lowN fs[k]) = true then [] else [fs[k]] := by
  rw [List.take_succ_eq_append_getElem h, List.filter_append]
  unfold keepB
  by_cases c : Lib.containsS (dropB fs) (lowN fs[k]) = true <;> simp [c]
theorem strip_le (fs : List PairV) (k : Nat) : ((fs.take k).filter (keepB fs)).length ≤ k := Nat.le_trans (List.length_filter_le _ _) (List.length_take_le _ _)
theorem pieces_snoc (cs : List ByteArray) (k : Nat) (h : k < cs.length) : (cs.take (k + 1)).flatMap pieceS = (cs.take k).flatMap pieceS ++ pieceS cs[k] := by
  rw [List.take_succ_eq_append_getElem h, List.flatMap_append]
  simp
theorem pieces_le (cs : List ByteArray) (k : Nat) : ((cs.take k).flatMap pieceS).length ≤ (cs.flatMap pieceS).length := by
  have : cs.flatMap pieceS = (cs.take k).flatMap pieceS ++ (cs.drop k).flatMap pieceS := by rw [← List.flatMap_append, List.take_append_drop]
  rw [this, List.length_append]
  omega
end Go.Proofs.YtchoenfclfafiaaDoor
