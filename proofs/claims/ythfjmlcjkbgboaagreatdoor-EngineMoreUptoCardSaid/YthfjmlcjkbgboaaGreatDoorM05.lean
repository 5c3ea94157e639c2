/- Part 5 of the proof: lemmas and walks that the last texts use. -/
import Derived.Test.YthfjmlcjkbgboaaGreatDoorM03
import Derived.Test.YthfjmlcjkbgboaaGreatDoorM04
import Derived.Deep.AppendLies
import Derived.Deep.RegionHeld3
import Derived.Deep.Cut
import Derived.Shelf.GgClosure.Gives
namespace Go.Proofs.YthfjmlcjkbgboaaGreatDoor
open Go.RowKit
/-- An instruction whose targets lie between. -/
def Tgt (x : Ins) (lo hi : Int) : Prop := (x.kind = 2 ∧ lo ≤ x.a ∧ x.a ≤ hi ∧ lo ≤ x.b ∧ x.b ≤ hi) ∨ (x.kind = 3 ∧ lo ≤ x.a ∧ x.a ≤ hi) ∨ x.kind = 1 ∨ x.kind = 4 ∨ x.kind = 5
theorem Tgt.mono {x : Ins} {lo hi lo' hi' : Int} (h : Tgt x lo hi) (h1 : lo' ≤ lo) (h2 : hi ≤ hi') : Tgt x lo' hi' := by
  unfold Tgt at h ⊢
  omega
theorem code_tgt {t : Tree} {at_ : Nat} {l : List Ins} (h : Code t at_ l) : ∀ x ∈ l, Tgt x at_ (at_ + l.length) := by
  induction h with
  | none | byte | begin | finish => intro x hx; simp only [List.mem_singleton] at hx; subst hx; simp [Tgt]
  | empty => intro x hx; simp at hx
  | cat S a b at_ la lb _ _ h1 h2 =>
    intro x hx
    rw [List.length_append]
    rcases List.mem_append.1 hx with h | h
    · exact (h1 x h).mono (Int.le_refl _) (by omega)
    · exact (h2 x h).mono (by omega) (by omega)
  | alt S a b at_ la lb _ _ h1 h2 =>
    intro x hx
    simp only [List.length_append, List.length_cons]
    rcases List.mem_cons.1 hx with h | hx
    · subst h; left; dsimp only; omega
    · rcases List.mem_append.1 hx with h | hx
      · exact (h1 x h).mono (by omega) (by omega)
      · rcases List.mem_cons.1 hx with h | h
        · subst h; right; left; dsimp only; omega
        · exact (h2 x h).mono (by omega) (by omega)
  | star S a at_ la _ h1 =>
    intro x hx
    simp only [List.length_append, List.length_cons, List.length_nil]
    rcases List.mem_cons.1 hx with h | hx
    · subst h; left; dsimp only; omega
    · rcases List.mem_append.1 hx with h | hx
      · exact (h1 x h).mono (by omega) (by omega)
      · rw [List.mem_singleton] at hx
        subst hx; right; left; dsimp only; omega
/-- All instructions lead somewhere. -/
def OkP (P : List Ins) : Prop := ∀ i (h : i < P.length), (P[i].kind = 2 ∧ (0 ≤ P[i].a ∧ P[i].a < P.length) ∧ 0 ≤ P[i].b ∧ P[i].b < P.length) ∨ (P[i].kind = 3 ∧ 0 ≤ P[i].a ∧ P[i].a < P.length) ∨ ((P[i].kind = 1 ∨ P[i].kind = 4 ∨ P[i].kind = 5) ∧ i + 1 < P.length) ∨ P[i].kind = 6
theorem code_ok {t : Tree} {l : List Ins} (h : Code t 0 l) : OkP (l ++ [⟨6, 0, 0, .zero⟩]) := by
  intro i hi
  rw [List.length_append, List.length_singleton] at hi ⊢
  by_cases c : i < l.length
  · rw [List.getElem_append_left c]
    have := code_tgt h l[i] (List.getElem_mem c)
    unfold Tgt at this
    omega
  · obtain rfl : i = l.length := by omega
    right; right; right
    simp
/-- An instruction lies there. -/
def Ins7 (w : World) (b o : Nat) (x : Ins) : Prop := w.cell? ⟨b, o, none⟩ = some (.int .i64 x.kind) ∧ w.cell? ⟨b, o + 1, none⟩ = some (.int .i64 x.a) ∧ w.cell? ⟨b, o + 2, none⟩ = some (.int .i64 x.b) ∧
      w.cell? ⟨b, o + 3, none⟩ = some (.int .u64 x.set.a) ∧ w.cell? ⟨b, o + 4, none⟩ = some (.int .u64 x.set.b) ∧ w.cell? ⟨b, o + 5, none⟩ = some (.int .u64 x.set.c) ∧ w.cell? ⟨b, o + 6, none⟩ = some (.int .u64 x.set.d)
theorem ins_here {w : World} {B n b off : Nat} {l : List Ins} (h : Sl w B 7 (some ⟨b, off, none⟩) n (l.flatMap cellsP)) (k : Nat) (hk : k < l.length) : Ins7 w b (off + k * 7) l[k] := by
  obtain ⟨b', off', e, _, r⟩ := ins_at h k hk
  injection e with e
  injection e with e1 e2
  subst e1; subst e2
  exact r
set_option maxRecDepth 100000 in
theorem there_any (k : Int) (g : Nat) (n : Nat) (w : World) (h0 : 0 ≤ k) (h1 : k < n) (hc : w.cell? ⟨g, 0, none⟩ = some (.int .i64 (n : Int))) :
    Calls Tryz.prog 186 #[.int .i64 k, .pointer (some ⟨g, 0, none⟩)] w fun e w' => e = .returned (.bool true) ∧ w' = w := by
  go_enter Tryz.func186, Tryz.ntmps186
  go_wp2_with fail
  go_ret
  exact ⟨rfl, rfl⟩
def OkRel (n : Nat) (w : World) (i : Value) (wr : World) : Prop := ∃ k : Nat, k ≤ n ∧ i = .int .i64 k ∧ Below w.heap.size w wr ∧ wr.cell? ⟨w.heap.size, 0, none⟩ = some (.int .i64 (n : Int)) ∧ w.heap.size < wr.heap.size
set_option maxRecDepth 100000 in
set_option maxHeartbeats 1600000 in
theorem PCheck_any (P : List Ins) (A : Option Addr) (c : Nat) (w : World) (h : Sl w w.heap.size 7 A P.length (P.flatMap cellsP)) (hok : OkP P) (h0 : 0 < P.length) (h4 : P.length ≤ 400) :
    Calls Tryz.prog 142 #[.slice A P.length c] w fun e w' => e = .returned (.int .i64 0) ∧ Below w.heap.size w w' := by
  have HOK := Lib.hid hok
  obtain ⟨b, off, rfl, hbl, hcells⟩ := h.src (by rw [h.len]; omega)
  have HAT : Hid (∀ k (hk : k < P.length) W, Below w.heap.size w W → Ins7 W b (off + k * 7) P[k]) := fun k hk W hb => ins_here (h.below hb) k hk
  have d1 : decide (400 < (P.length : Int)) = false := by simp; omega
  have i1 : ((P.length : Int) == 0) = false := beq_eq_false_iff_ne.2 (by omega)
  clear hok hcells
  go_enter Tryz.func142, Tryz.ntmps142
  go_wp2_with fail
  go_loopw [17] (fun i wr => OkRel P.length w i wr) (fun i _ => P.length - (intOf i).toNat)
  case atStart => exact ⟨0, Nat.zero_le _, rfl, (Below.refl _ _).alloc (Nat.le_refl _) _, new_cell (Below.refl _ _) 0, by simp⟩
  case round =>
    obtain ⟨k, hk, rfl, hbr, hcn, hzr⟩ := hrel
    by_cases hlt : k < P.length
    · obtain ⟨x0, x1, x2, x3, x4, x5, x6⟩ := HAT.out k hlt wr hbr
      have hx := HOK.out k hlt
      generalize P[k] = x at x0 x1 x2 x3 x4 x5 x6 hx
      obtain ⟨kd, xa, xb, ⟨sa, sb, sc, sd⟩⟩ := x
      dsimp only at x0 x1 x2 x3 x4 x5 x6 hx
      have i2 : (k : Int) < (P.length : Int) := by omega
      have HC := Lib.hid fun o => (((Below.refl wr.heap.size wr).alloc (Nat.le_refl _) o).cell (p := ⟨w.heap.size, 0, none⟩) hzr).trans hcn
      have HE : ∀ o, OkRel P.length w (.int .i64 ((k + 1 : Nat) : Int)) (wr.alloc o) := fun o => ⟨k + 1, hlt, rfl, hbr.alloc hbr.size o, HC.out o, by simp; omega⟩
      have HEN := Lib.hid HE
      clear HE
      rcases hx with ⟨rfl, ⟨a0, a1⟩, b0, b1⟩ | ⟨rfl, a0, a1⟩ | ⟨rfl | rfl | rfl, hi⟩ | rfl
      · go_wp2_with fail
        refine (there_any xa _ P.length _ a0 a1 (HC.out _)).mono ?_
        rintro e w' ⟨rfl, rfl⟩
        go_wp2_with fail
        refine (there_any xb _ P.length _ b0 b1 (HC.out _)).mono ?_
        rintro e w' ⟨rfl, rfl⟩
        go_wp2_with fail
        go_roundw
        case rel => exact HEN.out _
        case measure => simp [intOf] <;> omega
      · go_wp2_with fail
        refine (there_any xa _ P.length _ a0 a1 (HC.out _)).mono ?_
        rintro e w' ⟨rfl, rfl⟩
        go_wp2_with fail
        go_roundw
        case rel => exact HEN.out _
        case measure => simp [intOf] <;> omega
      · have i3 : (k : Int) + 1 < (P.length : Int) := by omega
        go_wp2_with fail
        go_roundw
        case rel => exact HEN.out _
        case measure => simp [intOf] <;> omega
      · have i3 : (k : Int) + 1 < (P.length : Int) := by omega
        go_wp2_with fail
        go_roundw
        case rel => exact HEN.out _
        case measure => simp [intOf] <;> omega
      · have i3 : (k : Int) + 1 < (P.length : Int) := by omega
        go_wp2_with fail
        go_roundw
        case rel => exact HEN.out _
        case measure => simp [intOf] <;> omega
      · go_wp2_with fail
        go_roundw
        case rel => exact HEN.out _
        case measure => simp [intOf] <;> omega
    · obtain rfl : k = P.length := by omega
      go_wp2_with fail
      go_ret
      exact ⟨rfl, hbr⟩
end Go.Proofs.YthfjmlcjkbgboaaGreatDoor
namespace Go.Proofs.YthfjmlcjkbgboaaGreatDoor
open Go.RowKit
def natV (n : Nat) : Value := .int .i64 (n : Int)
def OwnNT (w : World) (v : Value) (l : List Nat) : Prop := w.ownsRow 0 3 1 v l.length (l.map natV)
theorem OwnNT.nil (w : World) : OwnNT w (.slice none 0 0) [] := World.ownsRow_nil w 0 3 1
theorem OwnNT.keep {w w' : World} {v : Value} {l : List Nat} (h : OwnNT w v l) (hk : ∀ g, v.ownBlock = some g → w'.heap[g]? = w.heap[g]?) : OwnNT w' v l := by
  refine ⟨h.1, ?_⟩
  rcases h.2 with h0 | ⟨g, cap, cur, h1, h2, h3, h4⟩
  · exact .inl h0
  · exact .inr ⟨g, cap, cur, h1, h2, (hk g (by rw [h1]; rfl)).trans h3, h4⟩
theorem OwnNT.lt {w : World} {v : Value} {l : List Nat} (h : OwnNT w v l) : ∀ g, v.ownBlock = some g → g < w.heap.size := fun g hg => (World.ownsRow.lt h g hg).2
theorem OwnNT.form {w : World} {v : Value} {l : List Nat} (h : OwnNT w v l) : ∃ A c, v = .slice A l.length c := by
  rcases h.2 with ⟨h1, h2⟩ | ⟨g, cap, cur, h1, _⟩
  · exact ⟨none, 0, by rw [h1, h2]⟩
  · exact ⟨_, _, h1⟩
theorem OwnNT.head {w : World} {v : Value} {l : List Nat} (h : OwnNT w v l) (hl : 0 < l.length) : ∃ g c, v = .slice (some ⟨g, 0, none⟩) l.length c ∧ g < w.heap.size := by
  rcases h.2 with ⟨_, h2⟩ | ⟨g, cap, cur, h1, _⟩
  · omega
  · exact ⟨g, cap, h1, h.lt g (by rw [h1]; rfl)⟩
theorem OwnNT.cell {w : World} {g c : Nat} {l : List Nat} (h : OwnNT w (.slice (some ⟨g, 0, none⟩) l.length c) l) (k : Nat) (hk : k < l.length) : w.cell? ⟨g, k, none⟩ = some (.int .i64 ((l[k] : Nat) : Int)) := by
  have h1 := World.ownsRow.cells (g := g) h (by simp [Value.ownBlock]) k (natV l[k]) (by simp [hk])
  rw [addr_add] at h1
  exact h1
theorem OwnNT.pop {w : World} {g c k : Nat} {l : List Nat} (h : OwnNT w (.slice (some ⟨g, 0, none⟩) (l ++ [k]).length c) (l ++ [k])) : OwnNT w (.slice (some ⟨g, 0, none⟩) l.length c) l := by
  unfold OwnNT at h ⊢
  rw [List.length_append, List.length_singleton, List.map_append] at h
  exact ownsRow_pop (by simp) h
theorem OwnNT.one (w : World) (n : Nat) : OwnNT (w.alloc (.cells #[natV n] 3)) (.slice (some ⟨w.heap.size, 0, none⟩) 1 1) [n] :=
  ⟨rfl, .inr ⟨w.heap.size, 1, #[natV n], rfl, Nat.zero_le _, heap_alloc_new w _, Nat.le_refl _, by decide, rfl, rfl⟩⟩
/-- From where each instruction was come to. -/
def FromN (w : World) (g n : Nat) (F : Nat → Nat) : Prop := w.heap[g]? = some (.cells ((List.range n).map fun i => natV (F i)).toArray 3 (0, 0))
theorem FromN.cell {w : World} {g n : Nat} {F : Nat → Nat} (h : FromN w g n F) (k : Nat) (hk : k < n) : w.cell? ⟨g, k, none⟩ = some (.int .i64 ((F k : Nat) : Int)) ∧ w.frozen? ⟨g, k, none⟩ = false :=
  ⟨(cell_of_row w g k _ _ _ h).trans (by simp [hk, natV]), frozen_of_row w g k _ _ h⟩
theorem FromN.keep {w w' : World} {g n : Nat} {F : Nat → Nat} (h : FromN w g n F) (hk : w'.heap[g]? = w.heap[g]?) : FromN w' g n F := hk.trans h
theorem FromN.set {w : World} {g n : Nat} {F : Nat → Nat} (h : FromN w g n F) (k v : Nat) : FromN (w.setCell ⟨g, k, none⟩ (.int .i64 (v : Int))) g n (upd F k v) := by
  have h1 := heap_setCell_same w g k _ _ (.int .i64 (v : Int)) h
  unfold FromN
  rw [h1, List.setIfInBounds_toArray]
  congr 3
  apply List.ext_getElem (by simp)
  intro i h2 h3
  simp only [List.length_set, List.length_map, List.length_range] at h2
  rw [List.getElem_set]
  simp only [List.getElem_map, List.getElem_range, upd]
  by_cases c : k = i
  · subst c; simp [natV]
  · rw [if_neg c, if_neg (fun e => c e.symm)]
theorem info_intN : (Tryz.prog.info? 3).map (fun i => (i.zero, i.size, i.bytes)) = some (some (.int .i64 0), 1, 8) := by kernel_rfl
section
variable {ops : Array Oper} {rest : List Oper} {o : Oper} {a : Act} {Q : Exit → Act → World → Prop} {w : World}
theorem wp_append_n {K : Act → World → Prop} (s x : Operand) (ho : o.op = .call { callee := .builtin .append, args := #[s, x], argTypes := #[23, 23] })
    (v : Value) (l : List Nat) (hs : a.eval s = v) (hown : OwnNT w v l)
    (vs : List Value) (news : List Nat) (hv : vs = news.map natV) (g0 : Nat) (hg0 : w.heap.size = g0) (c : Nat) (hx : a.eval x = .slice (some ⟨g0, 0, none⟩) news.length c) (hn0 : 0 < news.length)
    (hlen : l.length + news.length ≤ 1048576)
    (h : ∀ g cap w', OwnNT w' (.slice (some ⟨g, 0, none⟩) (l ++ news).length cap) (l ++ news) → (∀ k, k < w.heap.size → v.ownBlock ≠ some k → w'.heap[k]? = w.heap[k]?) → (v.ownBlock = some g ∨ w.heap.size ≤ g) → g < w'.heap.size → w.heap.size < w'.heap.size → Below 0 w w' → K (a.put o.dst (.slice (some ⟨g, 0, none⟩) (l ++ news).length cap)) w') :
    o.wp Tryz.prog a (w.alloc (.cells vs.toArray 3)) K Q := by
  subst hv; subst hg0
  obtain ⟨i0, hi, hz0, hz1, hz2⟩ := info_parts info_intN
  have hown2 := World.ownsRow.alloc hown (.cells (news.map natV).toArray 3)
  refine wp_append_lies (P := Tryz.prog) (w.alloc (.cells (news.map natV).toArray 3)) s x 23 ho 0 3 i0 (.int .i64 0) 1 8 Tryz.underlying23 hi hz0 hz1 hz2 rfl (by decide) v l.length (l.map natV) hs hown2
    ⟨w.heap.size, 0, none⟩ news.length c (news.map natV) hx (by simp) (cells_new w _ _) (fun u hu => by obtain ⟨n, _, rfl⟩ := List.mem_map.1 hu; rfl) hn0 (by unfold maxLen; omega) (by omega) (Nat.zero_le _) (w.heap.size + 1) (by simp) ?_
  intro g cap w' h1 h2 h3 h4
  have hz := h2.size
  rw [World.size_alloc] at hz
  rw [← List.map_append, ← List.length_append] at h1
  rw [← List.length_append]
  exact h g cap w' h1 (fun k hk hne => (h2.block k (by simp; omega) (fun e => hne e.symm)).trans (Below.heap_alloc _ _ _ hk)) (h3.imp_right fun e => by omega) h4 (by omega) (((Below.refl _ _).alloc (Nat.zero_le _) _).trans ⟨h2.os, h2.tape, h2.output, h2.size, fun _ hi => absurd hi (by omega)⟩)
theorem wpList_append_nt (hgd : o.guard = none) (s x : Operand) (ho : o.op = .call { callee := .builtin .append, args := #[s, x], argTypes := #[23, 23] })
    (v : Value) (l : List Nat) (hs : a.eval s = v) (hown : OwnNT w v l)
    (vs : List Value) (news : List Nat) (hv : vs = news.map natV) (g0 : Nat) (hg0 : w.heap.size = g0) (c : Nat) (hx : a.eval x = .slice (some ⟨g0, 0, none⟩) news.length c) (hn0 : 0 < news.length)
    (hlen : l.length + news.length ≤ 1048576)
    (h : ∀ g cap w', OwnNT w' (.slice (some ⟨g, 0, none⟩) (l ++ news).length cap) (l ++ news) → (∀ k, k < w.heap.size → v.ownBlock ≠ some k → w'.heap[k]? = w.heap[k]?) → (v.ownBlock = some g ∨ w.heap.size ≤ g) → g < w'.heap.size → w.heap.size < w'.heap.size → Below 0 w w' → wpList Tryz.prog ops Q rest (a.put o.dst (.slice (some ⟨g, 0, none⟩) (l ++ news).length cap)) w') :
    wpList Tryz.prog ops Q (o :: rest) a (w.alloc (.cells vs.toArray 3)) :=
  wpList_plain hgd fun _ hK => wp_append_n s x ho v l hs hown vs news hv g0 hg0 c hx hn0 hlen fun g cap w' h1 h2 h3 h4 h5 h6 => hK _ _ (h g cap w' h1 h2 h3 h4 h5 h6)
end
end Go.Proofs.YthfjmlcjkbgboaaGreatDoor
namespace Go.Proofs.YthfjmlcjkbgboaaGreatDoor
open Go.RowKit
/-- How many instructions were not come to yet. -/
def unmet (n : Nat) (G : Nat → Nat) : Nat := ((List.range n).filter fun i => G i == 0).length
theorem unmet_succ (n : Nat) (G : Nat → Nat) : unmet (n + 1) G = unmet n G + if G n = 0 then 1 else 0 := by
  unfold unmet
  rw [List.range_succ, List.filter_append, List.length_append]
  by_cases c : G n = 0
  · simp [c]
  · simp [c]
theorem unmet_same {n : Nat} {G H : Nat → Nat} (h : ∀ i, i < n → (G i = 0 ↔ H i = 0)) : unmet n G = unmet n H := by
  induction n with
  | zero => rfl
  | succ n ih =>
    rw [unmet_succ, unmet_succ, ih fun i hi => h i (by omega)]
    by_cases c : G n = 0
    · rw [if_pos c, if_pos ((h n (by omega)).1 c)]
    · rw [if_neg c, if_neg fun e => c ((h n (by omega)).2 e)]
theorem unmet_upd {n k v : Nat} {G : Nat → Nat} (hk : k < n) (h0 : G k = 0) (hv : v ≠ 0) : unmet n (upd G k v) + 1 = unmet n G := by
  induction n with
  | zero => omega
  | succ n ih =>
    rw [unmet_succ, unmet_succ]
    by_cases c : k = n
    · subst c
      rw [if_pos h0, if_neg (by unfold upd; rw [if_pos rfl]; exact hv)]
      rw [unmet_same (H := G) fun i hi => by unfold upd; rw [if_neg (by omega)]]
    · have h1 := ih (by omega)
      have h2 : upd G k v n = G n := by unfold upd; rw [if_neg fun e => c e.symm]
      rw [h2]
      omega
theorem unmet_le (n : Nat) (G : Nat → Nat) : unmet n G ≤ n := by
  induction n with
  | zero => exact Nat.le_refl _
  | succ n ih => rw [unmet_succ]; split <;> omega
def zeroV : Value → Bool
  | .int _ m => m == 0
  | _ => false
def unmetW (w : World) (g : Nat) : Nat := match w.heap[g]? with
  | some (.cells cs _ _) => (cs.toList.filter zeroV).length
  | _ => 0
theorem FromN.unmet {w : World} {g n : Nat} {F : Nat → Nat} (h : FromN w g n F) : unmetW w g = unmet n F := by
  unfold FromN at h
  unfold unmetW
  rw [h]
  dsimp only
  unfold Go.Proofs.YthfjmlcjkbgboaaGreatDoor.unmet
  rw [List.filter_map, List.length_map]
  congr 1
  apply List.filter_congr
  intro i _
  show ((F i : Int) == 0) = (F i == 0)
  by_cases c : F i = 0
  · rw [c]; rfl
  · rw [beq_eq_false_iff_ne.2 c, beq_eq_false_iff_ne.2 (by omega)]
def lenV : Value → Nat
  | .slice _ n _ => n
  | _ => 0
/-- The threads' block. -/
def ThB (w : World) (gt : Nat) (pv : Value) (s : ByteArray) (gF n : Nat) (vl : Value) : Prop := ∃ cF, w.heap[gt]? = some (.cells #[pv, .string s, .slice (some ⟨gF, 0, none⟩) n cF, vl] 344 (0, 0))
theorem ThB.cells {w : World} {gt : Nat} {pv : Value} {s : ByteArray} {gF n : Nat} {vl : Value} (h : ThB w gt pv s gF n vl) :
    w.cell? ⟨gt, 0, none⟩ = some pv ∧ w.cell? ⟨gt, 1, none⟩ = some (.string s) ∧ (∃ cF, w.cell? ⟨gt, 2, none⟩ = some (.slice (some ⟨gF, 0, none⟩) n cF)) ∧ w.cell? ⟨gt, 3, none⟩ = some vl ∧ w.frozen? ⟨gt, 3, none⟩ = false := by
  obtain ⟨cF, h⟩ := h
  exact ⟨cell_of_row w gt 0 _ _ _ h, cell_of_row w gt 1 _ _ _ h, ⟨cF, cell_of_row w gt 2 _ _ _ h⟩, cell_of_row w gt 3 _ _ _ h, frozen_of_row w gt 3 _ _ h⟩
theorem ThB.keep {w w' : World} {gt : Nat} {pv : Value} {s : ByteArray} {gF n : Nat} {vl : Value} (h : ThB w gt pv s gF n vl) (hk : w'.heap[gt]? = w.heap[gt]?) : ThB w' gt pv s gF n vl := by
  obtain ⟨cF, h⟩ := h
  exact ⟨cF, hk.trans h⟩
theorem ThB.set {w : World} {gt : Nat} {pv : Value} {s : ByteArray} {gF n : Nat} {vl : Value} (h : ThB w gt pv s gF n vl) (u : Value) : ThB (w.setCell ⟨gt, 3, none⟩ u) gt pv s gF n u := by
  obtain ⟨cF, h⟩ := h
  exact ⟨cF, heap_setCell_same w gt 3 _ _ u h⟩
/-- The threads as they lie in memory, with the stack. -/
structure ThM (w : World) (gt : Nat) (pv : Value) (s : ByteArray) (gF n : Nat) (vl : Value) (G : Nat → Nat) (lg : List Nat) : Prop where
  blk : ThB w gt pv s gF n vl
  frm : FromN w gF n G
  lst : OwnNT w vl lg
  far : vl.ownBlock ≠ some gF
  len : lg.length + unmet n G ≤ n
theorem ThM.ne {w : World} {gt : Nat} {pv : Value} {s : ByteArray} {gF n : Nat} {vl : Value} {G : Nat → Nat} {lg : List Nat} (h : ThM w gt pv s gF n vl G lg) : gt ≠ gF ∧ vl.ownBlock ≠ some gt := by
  obtain ⟨cF, hb⟩ := h.blk
  constructor
  · intro e
    have h2 := h.frm
    unfold FromN at h2
    rw [← e, hb] at h2
    injection h2 with h2
    injection h2 with _ h2 _
    exact absurd h2 (by decide)
  · intro e
    rcases h.lst.2 with ⟨h1, _⟩ | ⟨g, cap, cur, h1, _, h3, _⟩
    · rw [h1] at e; cases e
    · rw [h1] at e
      injection e with e
      have e : g = gt := e
      rw [e, hb] at h3
      injection h3 with h3
      injection h3 with _ h3 _
      exact absurd h3 (by decide)
end Go.Proofs.YthfjmlcjkbgboaaGreatDoor
namespace Go.Proofs.YthfjmlcjkbgboaaGreatDoor
open Go.RowKit
mutual
def nodes : Tree → Nat
  | .node _ _ ts => 1 + nodesL ts
def nodesL : List Tree → Nat
  | [] => 0
  | t :: ts => nodes t + nodesL ts
end
theorem code_len {t : Tree} {at_ : Nat} {l : List Ins} (h : Code t at_ l) : l.length ≤ 2 * nodes t := by
  induction h with
  | none => simp [nodes, nodesL]
  | empty => simp
  | byte => simp [nodes, nodesL]
  | begin => simp [nodes, nodesL]
  | finish => simp [nodes, nodesL]
  | cat S a b at_ la lb _ _ h1 h2 => simp only [nodes, nodesL, List.length_append]; omega
  | alt S a b at_ la lb _ _ h1 h2 => simp only [nodes, nodesL, List.length_append, List.length_cons]; omega
  | star S a at_ la _ h1 => simp only [nodes, nodesL, List.length_append, List.length_cons, List.length_nil]; omega
/-- Blocks of other types stay. -/
def Keeps (w w' : World) : Prop := ∀ (g : Nat) (cs : Array Value) (t : TypeId) (fz : Nat × Nat), 262 ≠ t → w.heap[g]? = some (Obj.cells cs t fz) → w'.heap[g]? = some (Obj.cells cs t fz)
theorem Keeps.refl (w : World) : Keeps w w := fun _ _ _ _ _ h => h
theorem Keeps.trans {a b c : World} (h : Keeps a b) (k : Keeps b c) : Keeps a c := fun g cs t fz ht hg => k g cs t fz ht (h g cs t fz ht hg)
theorem heap_lt {w : World} {g : Nat} {o : Obj} (h : w.heap[g]? = some o) : g < w.heap.size := by
  rcases Nat.lt_or_ge g w.heap.size with hlt | hge
  · exact hlt
  · rw [Array.getElem?_eq_none hge] at h; cases h
theorem Keeps.below {w w' : World} (hb : Below w.heap.size w w') : Keeps w w' := fun g _ _ _ _ hg => (hb.block g (heap_lt hg)).trans hg
theorem Keeps.alloc (w : World) (o : Obj) : Keeps w (w.alloc o) := Keeps.below ((Below.refl _ _).alloc (Nat.le_refl _) o)
theorem Keeps.own {w w' : World} {base : Nat} {v : Value} {l : List Ins} (h : OwnP w base v l) (hk : ∀ g, g < w.heap.size → v.ownBlock ≠ some g → w'.heap[g]? = w.heap[g]?) : Keeps w w' := fun g _ _ _ ht hg => (hk g (heap_lt hg) (own_apart h hg ht)).trans hg
theorem Keeps.only {w w' : World} {base g : Nat} {c n : Nat} {l : List Ins} (h : OwnP w base (.slice (some ⟨g, 0, none⟩) n c) l) (hk : w.grownBy w' (some g)) : Keeps w w' := fun k _ _ _ ht hg =>
  (hk.block k (heap_lt hg) (fun e => own_apart h hg ht e.symm)).trans hg
def TCodePost (t : Tree) (p : List Ins) (B : Nat) (w : World) (e : Ending) (w' : World) : Prop :=
  ∃ v' l, e = .returned v' ∧ Code t p.length l ∧ OwnP w' B v' (p ++ l) ∧ Below B w w' ∧ Keeps w w' ∧ w.heap.size ≤ w'.heap.size
def CodeC (t : Tree) : Prop := ∀ (A : Option Addr) (c : Nat) (w : World) (B : Nat) (v : Value) (p : List Ins), B ≤ w.heap.size → LK w B t.kids A → OwnP w B v p → p.length + 2 * nodes t ≤ 1000 →
  Calls Tryz.prog 185 #[v, argX t A c] w (TCodePost t p B w)
set_option maxRecDepth 100000 in
set_option maxHeartbeats 800000 in
theorem code_app (k : Int) (S : Set4) (x : Ins) (hk : (k = 1 ∨ k = 3) ∧ x = ⟨1, 0, 0, S⟩ ∨ k = 7 ∧ x = ⟨4, 0, 0, .zero⟩ ∨ k = 8 ∧ x = ⟨5, 0, 0, .zero⟩) (hc : ∀ at_, Code (.node k S []) at_ [x]) : CodeC (.node k S []) := by
  intro A c w B v p hB _ hO hn
  have HC := Lib.hid hc
  obtain ⟨A0, c0, rfl, _⟩ := hO.form
  have hO2 : ∀ o, OwnP (w.alloc o) B (.slice A0 p.length c0) p := fun o => hO.below ((Below.refl _ _).alloc (Nat.le_refl _) o)
  have hp : p.length ≤ 1000 := by omega
  have HB := Lib.hid hB
  unfold argX
  obtain ⟨a, b, c', d⟩ := S
  dsimp only [Tree.kind, Tree.set, Tree.kids, List.length_nil]
  clear hc hn hB
  rcases hk with ⟨rfl | rfl, rfl⟩ | ⟨rfl, rfl⟩ | ⟨rfl, rfl⟩
  all_goals
    go_enter Tryz.func185, Tryz.ntmps185
    go_wp2_with (at_builtin; refine wpList_append_p rfl _ _ rfl B _ p rfl (hO2 _) (by simp; exact Nat.le_succ_of_le HB.out) _ ⟨_, 0, 0, ⟨_, _, _, _⟩⟩ rfl (w.heap.size + 1) (by simp) 1 rfl (by omega) ?_; intro v' w' hO3 hb3 hk3 hz3)
    go_ret
    exact ⟨v', _, rfl, HC.out _, hO3, ((Below.refl _ _).alloc HB.out _).trans hb3, (Keeps.alloc _ _).trans (Keeps.own (hO2 _) hk3), by simp at hz3; omega⟩
theorem CodeC.call {t : Tree} (ih : CodeC t) {w : World} {B : Nat} {A : Option Addr} {c : Nat} (h : LT w B t (cellsX t.kind t.set A t.kids.length c)) :
    ∀ (W : World) (v : Value) (p : List Ins), B ≤ W.heap.size → Below B w W → OwnP W B v p → p.length + 2 * nodes t ≤ 1000 → Calls Tryz.prog 185 #[v, argX t A c] W (TCodePost t p B W) := fun W v p hB hb hO hn => by
  obtain ⟨A', c', e, _, hk⟩ := h.parts
  have e6 : Value.slice A t.kids.length c = .slice A' t.kids.length c' := by unfold cellsX at e; injection e with _ e; injection e with _ e; injection e with _ e; injection e with _ e; injection e with _ e; injection e with e
  injection e6 with e7 _ e8
  subst e7; subst e8
  exact ih A c W B v p hB (hk.below hb) hO hn
def boxX (k : Int) (a b c d : Int) (A : Option Addr) (n q : Nat) : Obj := .cells #[.int .i64 k, .int .u64 a, .int .u64 b, .int .u64 c, .int .u64 d, .slice A n q] 217
theorem box_keeps {w W : World} {k a b c d : Int} {A : Option Addr} {n q : Nat} (h : Keeps (w.alloc (boxX k a b c d A n q)) W) : W.cell? ⟨w.heap.size, 5, none⟩ = some (.slice A n q) ∧ W.cell? ⟨w.heap.size, 0, none⟩ = some (.int .i64 k) := by
  have h1 := h w.heap.size _ 217 (0, 0) (by decide) (heap_alloc_new w _)
  exact ⟨cell_of_row W w.heap.size 5 _ _ (0, 0) h1, cell_of_row W w.heap.size 0 _ _ (0, 0) h1⟩
theorem six_below {w W : World} {B b off : Nat} {t : Tree} {A : Option Addr} {c : Nat} (h : CellsAt w b off (cellsX t.kind t.set A t.kids.length c)) (hb : Below B w W) (hlt : b < B) : CellsAt W b off (cellsX t.kind t.set A t.kids.length c) :=
  fun j hj => (hb.cell (p := ⟨b, off + j, none⟩) hlt).trans (h j hj)
theorem code_empty (S : Set4) : CodeC (.node 2 S []) := by
  intro A c w B v p hB _ hO hn
  obtain ⟨A0, c0, rfl, _⟩ := hO.form
  have hO2 : ∀ o, OwnP (w.alloc o) B (.slice A0 p.length c0) (p ++ []) := fun o => by rw [List.append_nil]; exact hO.below ((Below.refl _ _).alloc (Nat.le_refl _) o)
  unfold argX
  obtain ⟨a, b, c', d⟩ := S
  dsimp only [Tree.kind, Tree.set, Tree.kids, List.length_nil]
  go_enter Tryz.func185, Tryz.ntmps185
  go_wp2_with fail
  go_ret
  exact ⟨_, [], rfl, .empty _ _, hO2 _, (Below.refl _ _).alloc hB _, Keeps.alloc _ _, by simp⟩
set_option maxRecDepth 100000 in
set_option maxHeartbeats 1600000 in
theorem code_cat (S : Set4) (ta tb : Tree) (iha : CodeC ta) (ihb : CodeC tb) : CodeC (.node 4 S [ta, tb]) := by
  intro A c w B v p hB hk hO hn
  obtain ⟨bb, off, ca, cb, rfl, hbb, hca, hla, hcb, hlb⟩ := LK.two hk
  obtain ⟨A1, c1, rfl, _, _⟩ := hla.parts
  obtain ⟨A2, c2, rfl, _, _⟩ := hlb.parts
  have HA := Lib.hid (iha.call hla)
  have HB := Lib.hid (ihb.call hlb)
  have HX := Lib.hid fun W hb => six_below hca (W := W) hb hbb
  have HY := Lib.hid fun W hb => six_below hcb (W := W) hb hbb
  simp only [nodes, nodesL] at hn
  obtain ⟨A0, c0, rfl, _⟩ := hO.form
  have hO2 : ∀ o, OwnP (w.alloc o) B (.slice A0 p.length c0) p := fun o => hO.below ((Below.refl _ _).alloc (Nat.le_refl _) o)
  have HBX : Hid (∀ k a b c d A n q W, Keeps (w.alloc (boxX k a b c d A n q)) W → _) := fun k a b c d A n q W h => box_keeps h
  unfold boxX at HBX
  unfold argX at HA HB ⊢
  obtain ⟨a, b, c', d⟩ := S
  dsimp only [Tree.kind, Tree.set, Tree.kids, List.length_nil, List.length_cons] at HBX ⊢
  clear hk iha ihb hla hlb
  go_enter Tryz.func185, Tryz.ntmps185
  obtain ⟨x0, x1, x2, x3, x4, x5⟩ := hca.six
  clear hca hcb
  have hq1 : bb < w.heap.size := by omega
  go_wp2_with fail
  refine (HA.out _ _ p (by simp; omega) ((Below.refl _ _).alloc hB _) (hO2 _) (by omega)).mono ?_
  rintro e w1 ⟨v1, la, rfl, hc1, hO1, hb1, hk1, hz1⟩
  have hbw1 := ((Below.refl B w).alloc hB _).trans hb1
  have hkk := hk1
  obtain ⟨f5, f0⟩ := HBX.out _ _ _ _ _ _ _ _ _ hk1
  obtain ⟨y0, y1, y2, y3, y4, y5⟩ := (HY.out _ hbw1).six
  have hll := code_len hc1
  have hz1' : w.heap.size + 1 ≤ w1.heap.size := by simpa using hz1
  clear x0 x1 x2 x3 x4 x5 hb1 hk1 hz1
  go_wp2_with fail
  refine (HB.out _ _ (p ++ la) (by omega) hbw1 hO1 (by rw [List.length_append]; omega)).mono ?_
  rintro e w2 ⟨v2, lb, rfl, hc2, hO2', hb2, hk2, hz2⟩
  clear y0 y1 y2 y3 y4 y5 f0 f5
  go_wp2_with fail
  go_ret
  rw [List.length_append] at hc2
  exact ⟨v2, la ++ lb, rfl, .cat _ _ _ _ _ _ hc1 hc2, by rw [← List.append_assoc]; exact hO2', hbw1.trans hb2, ((Keeps.alloc _ _).trans hkk).trans hk2, by omega⟩
end Go.Proofs.YthfjmlcjkbgboaaGreatDoor
namespace Go.Proofs.YthfjmlcjkbgboaaGreatDoor
open Go.RowKit
theorem OwnP.drewN {w : World} {base : Nat} {v : Value} {l : List Ins} (h : OwnP w base v l) (n : Nat) : OwnP (w.drewN n) base v l := h
theorem OwnP.drew {w : World} {base : Nat} {v : Value} {l : List Ins} (h : OwnP w base v l) : OwnP w.drew base v l := h
theorem OwnP.spot {w : World} {base g c : Nat} {l : List Ins} (h : OwnP w base (.slice (some ⟨g, 0, none⟩) l.length c) l) (k : Nat) (hk : k < l.length) (j : Nat) (hj : j < 7) :
    w.cell? ⟨g, k * 7 + j, none⟩ = (cellsP l[k])[j]? ∧ w.frozen? ⟨g, k * 7 + j, none⟩ = false := by
  refine ⟨?_, World.ownsRow.frozenAt h _⟩
  have h1 := flat_at cellsP 7 cellsP_len l k j hk hj
  have hl := flat_len cellsP 7 cellsP_len l
  have h2 : k * 7 + j < (l.flatMap cellsP).length := by omega
  have := World.ownsRow.cells (g := g) h (by simp [Value.ownBlock]) (k * 7 + j) _ (List.getElem?_eq_getElem h2)
  rw [addr_add] at this
  rw [this, ← List.getElem?_eq_getElem h2, h1]
theorem OwnP.ab {w : World} {base g c : Nat} {l : List Ins} (h : OwnP w base (.slice (some ⟨g, 0, none⟩) l.length c) l) (k : Nat) (hk : k < l.length) :
    (w.cell? ⟨g, k * 7 + 1, none⟩ = some (.int .i64 l[k].a) ∧ w.cell? ⟨g, k * 7 + 2, none⟩ = some (.int .i64 l[k].b)) ∧ w.frozen? ⟨g, k * 7 + 1, none⟩ = false ∧ w.frozen? ⟨g, k * 7 + 2, none⟩ = false :=
  ⟨⟨(h.spot k hk 1 (by decide)).1, (h.spot k hk 2 (by decide)).1⟩, (h.spot k hk 1 (by decide)).2, (h.spot k hk 2 (by decide)).2⟩
theorem star_list (p la : List Ins) (n : Nat) (k : Int) (hn : n = p.length) : (p ++ [(⟨2, (n : Int) + 1, 0, .zero⟩ : Ins)] ++ la ++ [(⟨3, (n : Int), 0, .zero⟩ : Ins)]).set n ⟨2, (n : Int) + 1, k, .zero⟩ =
    p ++ ((⟨2, (n : Int) + 1, k, .zero⟩ : Ins) :: (la ++ [⟨3, (n : Int), 0, .zero⟩])) := by
  subst hn
  rw [List.append_assoc, List.append_assoc, List.set_append_right _ _ (Nat.le_refl _), Nat.sub_self]
  rfl
theorem star_at (p la : List Ins) (x y : Ins) (h : p.length < (p ++ [x] ++ la ++ [y]).length) : (p ++ [x] ++ la ++ [y])[p.length] = x := by
  simp
theorem Keeps.undrew {w w' : World} (h : Keeps w.drew w') : Keeps w w' := h
set_option maxRecDepth 100000 in
set_option maxHeartbeats 1600000 in
theorem code_star (S : Set4) (ta : Tree) (iha : CodeC ta) : CodeC (.node 6 S [ta]) := by
  intro A c w B v p hB hk hO hn
  obtain ⟨bb, off, ca, rfl, hbb, hca, hla⟩ := LK.one hk
  obtain ⟨A1, c1, rfl, _, _⟩ := hla.parts
  have HA := Lib.hid (iha.call hla)
  have HX := Lib.hid fun W hb => (six_below hca (W := W) hb hbb).six
  simp only [nodes, nodesL] at hn
  obtain ⟨A0, c0, rfl, _⟩ := hO.form
  have hO2 : ∀ o, OwnP (w.alloc o) B (.slice A0 p.length c0) p := fun o => hO.below ((Below.refl _ _).alloc (Nat.le_refl _) o)
  have HBX : Hid (∀ k a b c d A n q W, Keeps (w.alloc (boxX k a b c d A n q)) W → _) := fun k a b c d A n q W h => (box_keeps h).1
  unfold boxX at HBX
  unfold argX at HA ⊢
  obtain ⟨a, b, c', d⟩ := S
  dsimp only [Tree.kind, Tree.set, Tree.kids, List.length_nil, List.length_cons] at HBX ⊢
  clear hk iha hla
  have hHA := Lib.hid hO
  have i1 : IntKind.i64.wrap ((p.length : Int) + 1) = (p.length : Int) + 1 := IntWalk.i64_in _ (by omega)
  go_enter Tryz.func185, Tryz.ntmps185
  obtain ⟨x0, x1, x2, x3, x4, x5⟩ := hca.six
  clear hca
  have hq1 : bb < w.heap.size := by omega
  go_wp2_with fail
  have hbA : ∀ o, B ≤ (w.alloc o).heap.size := fun o => by simp; omega
  have HS := Lib.hid fun W hk hb => And.intro (HBX.out 6 a b c' d (some ⟨bb, off, none⟩) 1 c W hk) (HX.out W hb)
  go_region_held3 (fun w' => w'.cell? ⟨w.heap.size, 5, none⟩ = some (.slice (some ⟨bb, off, none⟩) 1 c) ∧ w'.cell? ⟨bb, off, none⟩ = some (.int .i64 ta.kind) ∧ w'.cell? ⟨bb, off + 1, none⟩ = some (.int .u64 ta.set.a) ∧ w'.cell? ⟨bb, off + 2, none⟩ = some (.int .u64 ta.set.b) ∧
      w'.cell? ⟨bb, off + 3, none⟩ = some (.int .u64 ta.set.c) ∧ w'.cell? ⟨bb, off + 4, none⟩ = some (.int .u64 ta.set.d) ∧ w'.cell? ⟨bb, off + 5, none⟩ = some (.slice A1 ta.kids.length c1))
    (first | exact HS.out _ (hkk8.trans hk1) (hbb8.trans hb1) | exact HS.out _ hkk8 hbb8 | go_keep)
    (first
      | (refine step_append_p rfl (.tmp 85) (.tmp 89) rfl B (.slice A0 p.length c0) p rfl (hO2 _).drew (hbA _) _ ⟨2, (p.length : Int) + 1, 0, .zero⟩ rfl (w.heap.size + 1) (by simp) 1 rfl (by omega) ?_; intro v8 w8 hO8 hb8 hk8 hz8; have hkk8 := Keeps.undrew (Keeps.own (hO2 _).drew hk8); have hbb8 : Below B w w8 := ((Below.refl B w).alloc hB _).drew.trans hb8)
      | (go_at_call 185; (with_reducible refine (HA.out w8 v8 (p ++ [⟨2, (p.length : Int) + 1, 0, .zero⟩]) (Nat.le_trans hB hbb8.size) hbb8 hO8 (by rw [List.length_append, List.length_singleton]; omega)).mono ?_); rintro e w1 ⟨v1, la, rfl, hc1, hO1, hb1, hk1, hz1⟩))
  rw [List.length_append, List.length_singleton] at hc1
  have hll := code_len hc1
  have hbw1 := hbb8.trans hb1
  have hkw1 := hkk8.trans hk1
  clear HA HS HX HBX hb1 hk1 hb8 hk8 x0 x1 x2 x3 x4 x5 hO8 hbA
  have hzz := hbw1.size
  have hB1 : B ≤ w1.heap.size := Nat.le_trans hB hbw1.size
  obtain ⟨A1', c1', rfl, _⟩ := hO1.form
  have hl1 : (p ++ [(⟨2, (p.length : Int) + 1, 0, .zero⟩ : Ins)] ++ la).length = p.length + 1 + la.length := by simp; omega
  have HM : Hid (∀ k, ((p ++ [(⟨2, (p.length : Int) + 1, 0, .zero⟩ : Ins)] ++ la ++ [(⟨3, (p.length : Int), 0, .zero⟩ : Ins)]).set p.length ⟨2, (p.length : Int) + 1, k, .zero⟩) = p ++ ((⟨2, (p.length : Int) + 1, k, .zero⟩ : Ins) :: (la ++ [⟨3, (p.length : Int), 0, .zero⟩]))) := Lib.hid fun k => star_list p la _ k rfl
  have HM2 : Hid (∀ h, (p ++ [(⟨2, (p.length : Int) + 1, 0, .zero⟩ : Ins)] ++ la ++ [(⟨3, (p.length : Int), 0, .zero⟩ : Ins)])[p.length]'h = ⟨2, (p.length : Int) + 1, 0, .zero⟩) := fun h => star_at p la _ _ h
  have HM3 : Hid ((p ++ [(⟨2, (p.length : Int) + 1, 0, .zero⟩ : Ins)] ++ la ++ [(⟨3, (p.length : Int), 0, .zero⟩ : Ins)]).length = p.length + 1 + la.length + 1) := Lib.hid (by simp; omega)
  generalize hL : p ++ [(⟨2, (p.length : Int) + 1, 0, .zero⟩ : Ins)] ++ la ++ [(⟨3, (p.length : Int), 0, .zero⟩ : Ins)] = L at HM HM2 HM3
  go_wp2_with (at_builtin; refine wpList_append_p rfl _ _ rfl B _ (p ++ [⟨2, (p.length : Int) + 1, 0, .zero⟩] ++ la) rfl hO1 hB1 _ ⟨3, p.length, 0, .zero⟩ rfl w1.heap.size rfl 1 rfl (by rw [hl1]; omega) ?_; intro v2 w2 hO3 hb2 hk2 hz2; rw [hL] at hO3; have hL1 : p.length < L.length := (by rw [HM3.out]; omega); have hL2 : (p.length : Int) < (L.length : Int) := (by omega); obtain ⟨gq, cq, rfl, hgb, hgl⟩ := hO3.head (by omega); have ⟨⟨_, hq2⟩, _, hf2⟩ := hO3.ab p.length hL1)
  go_ret
  have hst := hO3.setAB p.length hL1 2 (by decide) (.int .i64 (L.length : Int)) ⟨2, (p.length : Int) + 1, ((p.length + 1 + la.length + 1 : Nat) : Int), .zero⟩ (by rw [HM2.out, HM3.out]; rfl)
  rw [HM.out] at hst
  exact ⟨_, _, rfl, .star _ _ _ _ hc1, hst.1, (hbw1.trans hb2).setCell hgb _, (((Keeps.alloc _ _).trans hkw1).trans (Keeps.own hO1 hk2)).trans (Keeps.only hO3 hst.2), by simp; omega⟩
end Go.Proofs.YthfjmlcjkbgboaaGreatDoor
