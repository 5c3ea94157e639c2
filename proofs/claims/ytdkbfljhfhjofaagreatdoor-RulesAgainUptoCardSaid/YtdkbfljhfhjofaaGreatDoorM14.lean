/- Part 14 of the proof: lemmas and walks that the last texts use. -/
import Derived.Test.YtdkbfljhfhjofaaGreatDoorM01
import Derived.Test.YtdkbfljhfhjofaaGreatDoorM05
import Derived.Test.YtdkbfljhfhjofaaGreatDoorM06
import Derived.Test.YtdkbfljhfhjofaaGreatDoorM11
import Derived.Lib.IndexBytes
import Derived.Deep.QuietTactic
import Derived.BigQuiet
namespace Go.Proofs.YtdkbfljhfhjofaaGreatDoor
open Go.RowKit
theorem ru_cut (c : UInt8) (l : List UInt8) : (c ∉ l ∧ Lib.cut l [c] = (l, [], false)) ∨ (∃ a b, l = a ++ c :: b ∧ c ∉ a ∧ Lib.cut l [c] = (a, b, true)) := by
  by_cases h : c ∈ l
  · obtain ⟨a, b, rfl, ha⟩ := List.eq_append_cons_of_mem h
    exact .inr ⟨a, b, rfl, ha, cut_first c a b ha⟩
  · exact .inl ⟨h, cut_none c l h⟩
/-- So far: n lines are read, rest is left. -/
def Pg (S : List UInt8) (n : Nat) (rest : List UInt8) (m st : Int) (L : List RuOne) : Prop :=
  (n = 0 ∧ rest = S ∧ L = []) ∨ (1 ≤ n ∧ ∃ h ls, splL 10 S = h :: (ls ++ splL 10 rest) ∧ HeadIs (splL 32 h) ⟨m, st, []⟩ ∧ RulesIs ls L)
theorem head_any {ws : List (List UInt8)} {m st : Int} {l l' : List RuOne} (h : HeadIs ws ⟨m, st, l⟩) : HeadIs ws ⟨m, st, l'⟩ := ⟨h.len, h.word, h.most, h.most0, h.status, h.status0⟩
theorem pg_start (S : List UInt8) (m st : Int) : Pg S 0 S m st [] := .inl ⟨rfl, rfl, rfl⟩
theorem rules_snoc : ∀ {ls : List (List UInt8)} {L : List RuOne} {l : List UInt8} {x : RuOne}, RulesIs ls L → RuleIs (splL 32 l) x → RulesIs (ls ++ [l]) (L ++ [x])
  | [], [], _, _, _, hx => ⟨hx, trivial⟩
  | _ :: _, _ :: _, _, _, h, hx => ⟨h.1, rules_snoc h.2 hx⟩
  | [], _ :: _, _, _, h, _ => h.elim
  | _ :: _, [], _, _, h, _ => h.elim
theorem reads_split {argC : Int → ByteArray → Int} {S : List UInt8} {r : RuSet} (h : ReadsSet argC S r) : ∃ hd ls, splL 10 S = hd :: (ls ++ [[]]) ∧ HeadIs (splL 32 hd) r ∧ RulesIs ls r.list := h.2.1
theorem pg_nonl {argC : Int → ByteArray → Int} {S : List UInt8} {n : Nat} {rest : List UInt8} {m st : Int} {L : List RuOne} (h : Pg S n rest m st L) (hn : n = 0 ∨ rest ≠ []) (hc : (10 : UInt8) ∉ rest) : ∀ r, ¬ ReadsSet argC S r := fun r hr => by
  obtain ⟨hd, ls, e, _, _⟩ := reads_split hr
  rcases h with ⟨_, rfl, _⟩ | ⟨h1, h', ls', e', _, _⟩
  · rw [splL_whole 10 _ hc] at e
    have := congrArg List.length e
    simp at this
  · rw [splL_whole 10 _ hc] at e'
    rw [e] at e'
    have e2 := (List.cons.inj e').2
    have e3 := congrArg List.getLast? e2
    simp at e3
    rcases hn with hn | hn
    · omega
    · exact hn e3
theorem spl_line {rest a b : List UInt8} (h : rest = a ++ 10 :: b) (ha : (10 : UInt8) ∉ a) : splL 10 rest = a :: splL 10 b := by
  rw [h, splL_append, splL_whole 10 _ ha]; rfl
theorem pg_head {S rest a b : List UInt8} {m0 st0 m st : Int} {L : List RuOne} (h : Pg S 0 rest m0 st0 L) (hr : rest = a ++ 10 :: b) (ha : (10 : UInt8) ∉ a) (hh : HeadIs (splL 32 a) ⟨m, st, []⟩) : Pg S 1 b m st [] := by
  rcases h with ⟨_, rfl, _⟩ | ⟨h1, _⟩
  · exact .inr ⟨Nat.le_refl _, a, [], by rw [spl_line hr ha]; rfl, hh, trivial⟩
  · omega
theorem pg_nohead {argC : Int → ByteArray → Int} {S rest a b : List UInt8} {m0 st0 : Int} {L : List RuOne} (h : Pg S 0 rest m0 st0 L) (hr : rest = a ++ 10 :: b) (ha : (10 : UInt8) ∉ a) (hh : ∀ r, ¬ HeadIs (splL 32 a) r) : ∀ r, ¬ ReadsSet argC S r := fun r hr' => by
  obtain ⟨hd, ls, e, h2, _⟩ := reads_split hr'
  rcases h with ⟨_, rfl, _⟩ | ⟨h1, _⟩
  · rw [spl_line hr ha] at e
    have := (List.cons.inj e).1
    subst this
    exact hh r h2
  · omega
theorem pg_rule {S rest a b : List UInt8} {n : Nat} {m st : Int} {L : List RuOne} {x : RuOne} (h : Pg S n rest m st L) (hn : 1 ≤ n) (hr : rest = a ++ 10 :: b) (ha : (10 : UInt8) ∉ a) (hx : RuleIs (splL 32 a) x) : Pg S (n + 1) b m st (L ++ [x]) := by
  rcases h with ⟨h1, _⟩ | ⟨h1, hd, ls, e, h2, h3⟩
  · omega
  · exact .inr ⟨by omega, hd, ls ++ [a], by rw [e, spl_line hr ha]; simp, h2, rules_snoc h3 hx⟩
theorem rules_mid {ls : List (List UInt8)} {a : List UInt8} {t : List (List UInt8)} {L : List RuOne} : ∀ {l1 : List (List UInt8)}, ls = l1 ++ a :: t → RulesIs ls L → ∃ x, RuleIs (splL 32 a) x := fun {l1} => by
  intro h hr
  subst h
  revert L
  induction l1 with
  | nil =>
    intro L hr
    cases L with
    | nil => exact hr.elim
    | cons x r => exact ⟨x, hr.1⟩
  | cons y l1 ih =>
    intro L hr
    cases L with
    | nil => exact hr.elim
    | cons x r => exact ih hr.2
theorem pg_norule {argC : Int → ByteArray → Int} {S rest a b : List UInt8} {n : Nat} {m st : Int} {L : List RuOne} (h : Pg S n rest m st L) (hn : 1 ≤ n) (hr : rest = a ++ 10 :: b) (ha : (10 : UInt8) ∉ a) (hx : ∀ y, ¬ RuleIs (splL 32 a) y) : ∀ r, ¬ ReadsSet argC S r := fun r hr' => by
  obtain ⟨hd', ls', e', _, h4⟩ := reads_split hr'
  rcases h with ⟨h1, _⟩ | ⟨h1, hd, ls, e, h2, h3⟩
  · omega
  · rw [e, spl_line hr ha] at e'
    have e2 := (List.cons.inj e').2
    obtain ⟨t, ht⟩ : ∃ t, ls' = ls ++ a :: t := by
      have hb := splL_ne 10 b
      obtain ⟨i, l, hil⟩ : ∃ i l, splL 10 b = i ++ [l] := ⟨(splL 10 b).dropLast, (splL 10 b).getLast hb, (List.dropLast_concat_getLast hb).symm⟩
      rw [hil] at e2
      have e3 : (ls ++ a :: i) ++ [l] = ls' ++ [[]] := by rw [← e2]; simp
      have := List.append_inj_left' e3 rfl
      exact ⟨i, this.symm⟩
    obtain ⟨x, hx'⟩ := rules_mid ht h4
    exact hx x hx'
theorem pg_done {argC : Int → ByteArray → Int} {S : List UInt8} {n : Nat} {m st : Int} {L : List RuOne} (h : Pg S n [] m st L) (hn : 1 ≤ n) (hl : S.length ≤ 8192) (hc : checkR argC ⟨m, st, L⟩ = 0) : ReadsSet argC S ⟨m, st, L⟩ := by
  rcases h with ⟨h1, _⟩ | ⟨h1, hd, ls, e, h2, h3⟩
  · omega
  · exact ⟨hl, ⟨hd, ls, e, head_any h2, h3⟩, hc⟩
theorem pg_wrong {argC : Int → ByteArray → Int} {S : List UInt8} {n : Nat} {m st : Int} {L : List RuOne} (h : Pg S n [] m st L) (hn : 1 ≤ n) (hc : checkR argC ⟨m, st, L⟩ ≠ 0) : ∀ r, ¬ ReadsSet argC S r := fun r hr => by
  obtain ⟨hd', ls', e', h4, h5⟩ := reads_split hr
  have h6 := hr.2.2
  rcases h with ⟨h1, _⟩ | ⟨h1, hd, ls, e, h2, h3⟩
  · omega
  · rw [e] at e'
    obtain ⟨rfl, e2⟩ := List.cons.inj e'
    have e3 : ls = ls' := List.append_cancel_right e2
    subst e3
    have q1 := rulesIs_one h3 h5
    have q2 := h2.most.symm.trans h4.most
    have q3 := h2.status.symm.trans h4.status
    obtain ⟨m', st', L'⟩ := r
    dsimp only at q1 q2 q3
    subst q1; subst q2; subst q3
    exact hc h6
end Go.Proofs.YtdkbfljhfhjofaaGreatDoor
namespace Go.Proofs.YtdkbfljhfhjofaaGreatDoor
open Go.RowKit
structure RS where
  pos : Nat
  op : Nat
  e : Int
def RdAt (g : Nat) (s : ByteArray) (r : RS) (w : World) : Prop := w.heap[g]? = some (.cells #[.string s, .int .i64 r.pos, .int .i64 r.op, .int .i64 r.e] 198 (0, 0))
theorem RdAt.cells {g : Nat} {s : ByteArray} {r : RS} {w : World} (h : RdAt g s r w) : w.cell? ⟨g, 0, none⟩ = some (.string s) ∧ w.cell? ⟨g, 1, none⟩ = some (.int .i64 r.pos) ∧ w.cell? ⟨g, 2, none⟩ = some (.int .i64 r.op) ∧ w.cell? ⟨g, 3, none⟩ = some (.int .i64 r.e) :=
  ⟨cell_of_row w g 0 _ _ _ h, cell_of_row w g 1 _ _ _ h, cell_of_row w g 2 _ _ _ h, cell_of_row w g 3 _ _ _ h⟩
theorem RdAt.free {g : Nat} {s : ByteArray} {r : RS} {w : World} (h : RdAt g s r w) (j : Nat) : w.frozen? ⟨g, j, none⟩ = false := by
  unfold RdAt at h
  simp [World.frozen?, h]
theorem RdAt.lt {g : Nat} {s : ByteArray} {r : RS} {w : World} (h : RdAt g s r w) : g < w.heap.size := by
  rcases Nat.lt_or_ge g w.heap.size with h' | h'
  · exact h'
  · unfold RdAt at h; simp [Array.getElem?_eq_none h'] at h
theorem RdAt.drew {g : Nat} {s : ByteArray} {r : RS} {w : World} (h : RdAt g s r w) (n : Nat) : RdAt g s r (w.drewN n) := h
theorem RdAt.below {g : Nat} {s : ByteArray} {r : RS} {w w' : World} (h : RdAt g s r w) (hb : Below w.heap.size w w') : RdAt g s r w' := (hb.block g h.lt).trans h
theorem RdAt.setPos {g : Nat} {s : ByteArray} {r : RS} {w : World} (h : RdAt g s r w) (n : Nat) : RdAt g s { r with pos := n } (w.setCell ⟨g, 1, none⟩ (.int .i64 n)) := by
  unfold RdAt at h ⊢
  simp only [World.setCell, Array.getElem?_modify, h]
  rfl
theorem RdAt.setE {g : Nat} {s : ByteArray} {r : RS} {w : World} (h : RdAt g s r w) (n : Int) : RdAt g s { r with e := n } (w.setCell ⟨g, 3, none⟩ (.int .i64 n)) := by
  unfold RdAt at h ⊢
  simp only [World.setCell, Array.getElem?_modify, h]
  rfl
theorem RdAt.setOp {g : Nat} {s : ByteArray} {r : RS} {w : World} (h : RdAt g s r w) (n : Nat) : RdAt g s { r with op := n } (w.setCell ⟨g, 2, none⟩ (.int .i64 n)) := by
  unfold RdAt at h ⊢
  simp only [World.setCell, Array.getElem?_modify, h]
  rfl
/-- How a function of the reader leaves it. -/
def RdEnd (g : Nat) (s : ByteArray) (r : RS) (w w' : World) : Prop := RdAt g s r w' ∧ w.grownBy w' (some g)
theorem RdEnd.drew {g : Nat} {s : ByteArray} {r : RS} {w : World} (h : RdAt g s r w) (n : Nat) : RdEnd g s r w (w.drewN n) := ⟨h, rfl, rfl, rfl, Nat.le_refl _, fun _ _ _ => rfl⟩
theorem grown_refl (w : World) (row : Option Nat) : w.grownBy w row := ⟨rfl, rfl, rfl, Nat.le_refl _, fun _ _ _ => rfl⟩
theorem RdEnd.more {g : Nat} {s : ByteArray} {r : RS} {w w' : World} (h : RdEnd g s r w w') (n : Nat) : RdEnd g s r w (w'.drewN n) := ⟨h.1, only_drewN h.2 n⟩
def nextR (s : List UInt8) (r : RS) : Int := if r.e = 0 then (match s[r.pos]? with | some b => (b.toNat : Int) | none => -1) else -1
def failR (r : RS) (e : Int) : RS := if r.e = 0 then { r with e := e } else r
def takeR (s : List UInt8) (r : RS) (b : Int) : Bool × RS := if nextR s r = b then (true, { r with pos := r.pos + 1 }) else (false, r)
def endsR (s : List UInt8) (r : RS) : Bool := decide (nextR s r < 0) || (decide (nextR s r = 124) || decide (nextR s r = 41))
set_option maxRecDepth 100000 in
set_option maxHeartbeats 1600000 in
theorem next_quiet (g : Nat) (s : ByteArray) (r : RS) (w : World) (h : RdAt g s r w) (hp : r.pos ≤ s.size) :
    Calls Tryz.prog 202 #[.pointer (some ⟨g, 0, none⟩)] w fun e w' => e = .returned (.int .i64 (nextR s.data.toList r)) ∧ ∃ n, w' = w.drewN n := by
  have ⟨c0, c1, c2, c3⟩ := h.cells
  have H := Lib.hid h
  by_cases he : r.e = 0
  · have d2 : (r.e != 0) = false := by rw [he]; rfl
    rcases Nat.lt_or_ge r.pos s.size with hlt | hge
    · have d1 : ((r.pos : Int) == (s.size : Int)) = false := by rw [beq_eq_false_iff_ne]; omega
      have HN : Hid (nextR s.data.toList r = (s[r.pos].toNat : Int)) := by
        unfold Hid nextR
        rw [if_pos he, Lib.data_getElem? s r.pos hlt]
      clear h he
      go_enter Tryz.func202, Tryz.ntmps202
      go_wp2_with fail
      go_quiet (fail)
      obtain ⟨wq, hwq⟩ : ∃ wq, w.drewN nq = wq := ⟨_, rfl⟩
      have HE : Hid (RdAt g s r wq ∧ ∃ n, wq = w.drewN n) := by rw [← hwq]; exact ⟨H.out.drew nq, nq, rfl⟩
      rw [hwq]
      have ⟨c0, c1, c2, c3⟩ := HE.out.1.cells
      clear hwq
      go_wp2_with fail
      go_quiet (fail)
      go_wp2_with fail
      exact bodyPost_ret (v := .int .i64 (s[r.pos].toNat : Int)) (by simp [results, Tryz.results202, go_sem]; exact IntWalk.wrap64_in (s[r.pos].toNat : Int) (by have := s[r.pos].toNat_lt; omega)) rfl ⟨by rw [HN.out], by obtain ⟨n, hn⟩ := HE.out.2; exact ⟨n + nq, by rw [hn, World.drewN_drewN]⟩⟩
    · obtain hee : r.pos = s.size := by omega
      have d1 : ((r.pos : Int) == (s.size : Int)) = true := by rw [beq_iff_eq]; omega
      have HN : Hid (nextR s.data.toList r = -1) := by
        unfold Hid nextR
        rw [if_pos he, List.getElem?_eq_none (by simp; omega)]
      clear h he hee
      go_enter Tryz.func202, Tryz.ntmps202
      go_wp2_with fail
      go_quiet (fail)
      obtain ⟨wq, hwq⟩ : ∃ wq, w.drewN nq = wq := ⟨_, rfl⟩
      have HE : Hid (RdAt g s r wq ∧ ∃ n, wq = w.drewN n) := by rw [← hwq]; exact ⟨H.out.drew nq, nq, rfl⟩
      rw [hwq]
      have ⟨c0, c1, c2, c3⟩ := HE.out.1.cells
      clear hwq
      go_wp2_with fail
      exact bodyPost_ret (v := .int .i64 (-1)) (by simp [results, Tryz.results202, go_sem]) rfl ⟨by rw [HN.out], HE.out.2⟩
  · have d2 : (r.e != 0) = true := bne_iff_ne.2 he
    have HN : Hid (nextR s.data.toList r = -1) := by
      unfold Hid nextR
      rw [if_neg he]
    clear h he
    go_enter Tryz.func202, Tryz.ntmps202
    by_cases hq : r.pos = s.size
    · have d1 : ((r.pos : Int) == (s.size : Int)) = true := by rw [beq_iff_eq]; omega
      clear hq
      go_wp2_with fail
      go_quiet (fail)
      obtain ⟨wq, hwq⟩ : ∃ wq, w.drewN nq = wq := ⟨_, rfl⟩
      have HE : Hid (RdAt g s r wq ∧ ∃ n, wq = w.drewN n) := by rw [← hwq]; exact ⟨H.out.drew nq, nq, rfl⟩
      rw [hwq]
      have ⟨c0, c1, c2, c3⟩ := HE.out.1.cells
      clear hwq
      go_wp2_with fail
      exact bodyPost_ret (v := .int .i64 (-1)) (by simp [results, Tryz.results202, go_sem]) rfl ⟨by rw [HN.out], HE.out.2⟩
    · have d1 : ((r.pos : Int) == (s.size : Int)) = false := by rw [beq_eq_false_iff_ne]; omega
      clear hq
      go_wp2_with fail
      go_quiet (fail)
      obtain ⟨wq, hwq⟩ : ∃ wq, w.drewN nq = wq := ⟨_, rfl⟩
      have HE : Hid (RdAt g s r wq ∧ ∃ n, wq = w.drewN n) := by rw [← hwq]; exact ⟨H.out.drew nq, nq, rfl⟩
      rw [hwq]
      have ⟨c0, c1, c2, c3⟩ := HE.out.1.cells
      clear hwq
      go_wp2_with fail
      exact bodyPost_ret (v := .int .i64 (-1)) (by simp [results, Tryz.results202, go_sem]) rfl ⟨by rw [HN.out], HE.out.2⟩
theorem next_any (g : Nat) (s : ByteArray) (r : RS) (w : World) (h : RdAt g s r w) (hp : r.pos ≤ s.size) :
    Calls Tryz.prog 202 #[.pointer (some ⟨g, 0, none⟩)] w fun e w' => e = .returned (.int .i64 (nextR s.data.toList r)) ∧ RdEnd g s r w w' :=
  (next_quiet g s r w h hp).mono fun e w' ⟨h1, n, h2⟩ => ⟨h1, by rw [h2]; exact RdEnd.drew h n⟩
set_option maxRecDepth 100000 in
set_option maxHeartbeats 1600000 in
theorem fail_any (g : Nat) (s : ByteArray) (r : RS) (x : Int) (w : World) (h : RdAt g s r w) :
    Calls Tryz.prog 126 #[.pointer (some ⟨g, 0, none⟩), .int .i64 x] w fun e w' => e = .returned (.tuple #[]) ∧ RdEnd g s (failR r x) w w' := by
  have ⟨c0, c1, c2, c3⟩ := h.cells
  have f3 := h.free 3
  by_cases he : r.e = 0
  · have d2 : (r.e == 0) = true := by rw [he]; rfl
    have HE : Hid (RdEnd g s (failR r x) w (w.setCell ⟨g, 3, none⟩ (.int .i64 x))) := by unfold Hid failR; rw [if_pos he]; exact ⟨h.setE x, only_setCell (grown_refl w _) 3 _⟩
    clear h he
    go_enter Tryz.func126, Tryz.ntmps126
    go_wp2_with fail
    exact bodyPost_end (v := .tuple #[]) (by simp [results, Tryz.results126, go_sem]) rfl ⟨rfl, HE.out⟩
  · have d2 : (r.e == 0) = false := beq_eq_false_iff_ne.2 he
    have HE : Hid (RdEnd g s (failR r x) w w) := by unfold Hid failR; rw [if_neg he]; exact ⟨h, grown_refl w _⟩
    clear h he
    go_enter Tryz.func126, Tryz.ntmps126
    go_wp2_with fail
    exact bodyPost_end (v := .tuple #[]) (by simp [results, Tryz.results126, go_sem]) rfl ⟨rfl, HE.out⟩
theorem RdEnd.trans {g : Nat} {s : ByteArray} {r' : RS} {w w1 w2 : World} (h : w.grownBy w1 (some g)) (k : RdEnd g s r' w1 w2) : RdEnd g s r' w w2 := ⟨k.1, only_trans h k.2⟩
theorem nextR_pos {s : List UInt8} {r : RS} {b : Int} (h : nextR s r = b) (hb : 0 ≤ b) : r.pos < s.length ∧ r.e = 0 := by
  unfold nextR at h
  split at h
  · rename_i he
    cases hc : s[r.pos]? with
    | none => rw [hc] at h; dsimp only at h; omega
    | some y => exact ⟨(List.getElem?_eq_some_iff.1 hc).1, he⟩
  · omega
set_option maxRecDepth 100000 in
set_option maxHeartbeats 1600000 in
theorem take_any (g : Nat) (s : ByteArray) (r : RS) (b : Int) (w : World) (h : RdAt g s r w) (hp : r.pos ≤ s.size) (hs : s.size ≤ 4096) :
    Calls Tryz.prog 168 #[.pointer (some ⟨g, 0, none⟩), .int .i64 b] w fun e w' => e = .returned (.bool (takeR s.data.toList r b).1) ∧ RdEnd g s (takeR s.data.toList r b).2 w w' := by
  have HN := Lib.hid (next_any g s r w h hp)
  clear h
  by_cases hb : nextR s.data.toList r = b
  · have d1 : (nextR s.data.toList r != b) = false := by rw [hb]; simp
    have i7 : IntKind.i64.wrap ((r.pos : Int) + 1) = ((r.pos + 1 : Nat) : Int) := IntWalk.i64_in _ (by omega)
    have HT : Hid (takeR s.data.toList r b = (true, { r with pos := r.pos + 1 })) := by unfold Hid takeR; rw [if_pos hb]
    go_enter Tryz.func168, Tryz.ntmps168
    go_wp2_with (go_at_call 202; apply Hid.out)
    unfold Hid
    refine HN.out.mono ?_
    rintro e w1 ⟨rfl, h1, hk⟩
    have ⟨c0, c1, c2, c3⟩ := h1.cells
    have f1 := h1.free 1
    have HE : Hid (RdEnd g s { r with pos := r.pos + 1 } w (w1.setCell ⟨g, 1, none⟩ (.int .i64 ((r.pos + 1 : Nat) : Int)))) := ⟨h1.setPos _, only_setCell hk 1 _⟩
    clear hb h1 hk HN
    go_wp2_with fail
    exact bodyPost_ret (v := .bool true) (by simp [results, Tryz.results168, go_sem]) rfl ⟨by rw [HT.out], by rw [HT.out]; exact HE.out⟩
  · have d1 : (nextR s.data.toList r != b) = true := bne_iff_ne.2 hb
    have HT : Hid (takeR s.data.toList r b = (false, r)) := by unfold Hid takeR; rw [if_neg hb]
    clear hb
    go_enter Tryz.func168, Tryz.ntmps168
    go_wp2_with (go_at_call 202; apply Hid.out)
    unfold Hid
    refine HN.out.mono ?_
    rintro e w1 ⟨rfl, h1⟩
    have HE := Lib.hid h1
    clear h1 HN
    go_wp2_with fail
    exact bodyPost_ret (v := .bool false) (by simp [results, Tryz.results168, go_sem]) rfl ⟨by rw [HT.out], by rw [HT.out]; exact HE.out⟩
set_option maxRecDepth 100000 in
set_option maxHeartbeats 1600000 in
theorem rends_any (g : Nat) (s : ByteArray) (r : RS) (w : World) (h : RdAt g s r w) (hp : r.pos ≤ s.size) :
    Calls Tryz.prog 200 #[.pointer (some ⟨g, 0, none⟩)] w fun e w' => e = .returned (.bool (endsR s.data.toList r)) ∧ RdEnd g s r w w' := by
  have HN := Lib.hid (next_any g s r w h hp)
  have HD : Hid (endsR s.data.toList r = (decide (nextR s.data.toList r < 0) || (decide (nextR s.data.toList r = 124) || decide (nextR s.data.toList r = 41)))) := rfl
  generalize endsR s.data.toList r = R at *
  generalize nextR s.data.toList r = N at *
  clear h
  go_enter Tryz.func200, Tryz.ntmps200
  go_wp2_with (go_at_call 202; apply Hid.out)
  unfold Hid
  refine HN.out.mono ?_
  rintro e w1 ⟨rfl, h1⟩
  have HE := Lib.hid h1
  clear h1 HN
  by_cases q1 : N < 0
  · have d1 : decide (N < 0) = true := decide_eq_true q1
    rw [d1, Bool.true_or] at HD
    clear q1
    go_wp2_with fail
    exact bodyPost_ret (v := .bool true) (by simp [results, Tryz.results200, go_sem]) rfl ⟨by rw [HD.out], HE.out⟩
  · have d1 : decide (N < 0) = false := decide_eq_false q1
    rw [d1, Bool.false_or] at HD
    clear q1
    by_cases q2 : N = 124
    · have d2 : (N == 124) = true := by rw [q2]; rfl
      rw [decide_eq_true q2, Bool.true_or] at HD
      clear q2
      go_wp2_with fail
      exact bodyPost_ret (v := .bool true) (by simp [results, Tryz.results200, go_sem]) rfl ⟨by rw [HD.out], HE.out⟩
    · have d2 : (N == 124) = false := beq_eq_false_iff_ne.2 q2
      rw [decide_eq_false q2, Bool.false_or] at HD
      clear q2
      go_wp2_with fail
      exact bodyPost_ret (v := .bool (N == 41)) (by simp [results, Tryz.results200, go_sem]) rfl ⟨by rw [HD.out, Bool.beq_eq_decide_eq], HE.out⟩
def hexL : List UInt8 := [48, 49, 50, 51, 52, 53, 54, 55, 56, 57, 97, 98, 99, 100, 101, 102]
def digitR (s : List UInt8) (r : RS) : Int × RS :=
  if nextR s r < 0 then (0, failR r 3)
  else if Lib.indexByte hexL (nextR s r).toNat.toUInt8 < 0 then (0, failR r 3)
  else (Lib.indexByte hexL (nextR s r).toNat.toUInt8, { r with pos := r.pos + 1 })
theorem nextR_byte {s : List UInt8} {r : RS} : -1 ≤ nextR s r ∧ nextR s r ≤ 255 := by
  unfold nextR
  split
  · cases s[r.pos]? with
    | none => dsimp only; omega
    | some b => dsimp only; have := b.toNat_lt; omega
  · omega
set_option maxRecDepth 100000 in
set_option maxHeartbeats 1600000 in
theorem rdigit_any (g : Nat) (s : ByteArray) (r : RS) (w : World) (h : RdAt g s r w) (hp : r.pos ≤ s.size) (hs : s.size ≤ 4096) :
    Calls Tryz.prog 272 #[.pointer (some ⟨g, 0, none⟩)] w fun e w' => e = .returned (.int .i64 (digitR s.data.toList r).1) ∧ RdEnd g s (digitR s.data.toList r).2 w w' := by
  have HN := Lib.hid (next_any g s r w h hp)
  have hnb := nextR_byte (s := s.data.toList) (r := r)
  have hpos : 0 ≤ nextR s.data.toList r → r.pos < s.size := fun h => by have := (nextR_pos rfl h).1; simpa using this
  have HD : Hid (digitR s.data.toList r = if nextR s.data.toList r < 0 then (0, failR r 3)
  else if Lib.indexByte hexL (nextR s.data.toList r).toNat.toUInt8 < 0 then (0, failR r 3)
  else (Lib.indexByte hexL (nextR s.data.toList r).toNat.toUInt8, { r with pos := r.pos + 1 })) := rfl
  have HF : Hid (∀ W, RdAt g s r W → Calls Tryz.prog 126 #[.pointer (some ⟨g, 0, none⟩), .int .i64 3] W fun e w' => e = .returned (.tuple #[]) ∧ RdEnd g s (failR r 3) W w') := fun W h => fail_any g s r 3 W h
  generalize digitR s.data.toList r = R at *
  generalize nextR s.data.toList r = N at *
  clear h
  go_enter Tryz.func272, Tryz.ntmps272
  go_wp2_with (go_at_call 202; apply Hid.out)
  unfold Hid
  refine HN.out.mono ?_
  rintro e w1 ⟨rfl, h1, hk⟩
  have HK := Lib.hid hk
  clear HN hk
  by_cases q1 : N < 0
  · have d1 : decide (N < 0) = true := decide_eq_true q1
    rw [if_pos q1] at HD
    have HF1 := Lib.hid (HF.out w1 h1)
    clear q1 h1 HF hpos
    go_wp2_with (go_at_call 126; apply Hid.out)
    unfold Hid
    refine HF1.out.mono ?_
    rintro e w2 ⟨rfl, h2⟩
    have HE := Lib.hid (RdEnd.trans HK.out h2)
    clear h2
    go_wp2_with fail
    exact bodyPost_ret (v := .int .i64 0) (by simp [results, Tryz.results272, go_sem]) rfl ⟨by rw [HD.out], by rw [HD.out]; exact HE.out⟩
  have d1 : decide (N < 0) = false := decide_eq_false q1
  rw [if_neg q1] at HD
  have hp1 := hpos (by omega)
  have i8 : IntKind.u8.wrap N = N := by rw [show IntKind.u8.wrap N = N % 256 from rfl]; omega
  have HI : Hid (∀ W, Calls Tryz.prog 86 #[.string (ByteArray.mk #[48, 49, 50, 51, 52, 53, 54, 55, 56, 57, 97, 98, 99, 100, 101, 102]), .int .u8 N] W fun e w' => e = .returned (.int .i64 (Lib.indexByte hexL N.toNat.toUInt8)) ∧ w' = W) := fun W => Tryz.strings_IndexByte _ N W
  generalize Lib.indexByte hexL N.toNat.toUInt8 = K at *
  go_wp2_with (go_at_call 86; apply Hid.out)
  unfold Hid
  refine (HI.out w1).mono ?_
  rintro e w2 ⟨rfl, rfl⟩
  by_cases q2 : K < 0
  · have d2 : decide (K < 0) = true := decide_eq_true q2
    rw [if_pos q2] at HD
    have HF1 := Lib.hid (HF.out w2 h1)
    clear q2 h1 HF hpos
    go_wp2_with (go_at_call 126; apply Hid.out)
    unfold Hid
    refine HF1.out.mono ?_
    rintro e w3 ⟨rfl, h2⟩
    have HE := Lib.hid (RdEnd.trans HK.out h2)
    clear h2
    go_wp2_with fail
    exact bodyPost_ret (v := .int .i64 0) (by simp [results, Tryz.results272, go_sem]) rfl ⟨by rw [HD.out], by rw [HD.out]; exact HE.out⟩
  · have d2 : decide (K < 0) = false := decide_eq_false q2
    rw [if_neg q2] at HD
    have i7 : IntKind.i64.wrap ((r.pos : Int) + 1) = ((r.pos + 1 : Nat) : Int) := IntWalk.i64_in _ (by omega)
    have ⟨c0, c1, c2, c3⟩ := h1.cells
    have f1 := h1.free 1
    have HE : Hid (RdEnd g s { r with pos := r.pos + 1 } w (w2.setCell ⟨g, 1, none⟩ (.int .i64 ((r.pos + 1 : Nat) : Int)))) := ⟨h1.setPos _, only_setCell HK.out 1 _⟩
    clear q2 h1 HF hpos
    go_wp2_with fail
    exact bodyPost_ret (v := .int .i64 K) (by simp [results, Tryz.results272, go_sem]) rfl ⟨by rw [HD.out], by rw [HD.out]; exact HE.out⟩
end Go.Proofs.YtdkbfljhfhjofaaGreatDoor
