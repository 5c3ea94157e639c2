/- Part 38 of the proof: lemmas and walks that the last texts use. -/
import Derived.Test.YthfjmlcjkbgboaaGreatDoorM03
import Derived.Test.YthfjmlcjkbgboaaGreatDoorM10
import Derived.Test.YthfjmlcjkbgboaaGreatDoorM26
import Derived.Lib.Join
import Derived.Deep.Cut
import Derived.Deep.AppendLies
import Derived.Laws.Concat
namespace Go.Proofs.YthfjmlcjkbgboaaGreatDoor
open Go.RowKit
def upP : List UInt8 := [46, 46]
def stepP (rooted : Bool) (left : List (List UInt8)) (p : List UInt8) : List (List UInt8) :=
 if p = [] ∨ p = [46] then left else if p = upP then (if left ≠ [] ∧ left.getLast? ≠ some upP then left.dropLast else if rooted = true then left else left ++ [p]) else left ++ [p]
def leftP (rooted : Bool) (ps : List (List UInt8)) : List (List UInt8) := ps.foldl (stepP rooted) []
def dotP (p : List UInt8) : Bool := decide (p = [] ∨ p = [46] ∨ p = upP)
def tailP (left ps : List (List UInt8)) : Bool := decide (left ≠ [] ∧ 1 < ps.length) && dotP (ps.getLast?.getD [])
def outP (rooted : Bool) (left : List (List UInt8)) (sl : Bool) : List UInt8 := (if rooted = true then [47] else []) ++ Lib.join left [47] ++ (if sl = true then [47] else [])
def pathL (s : List UInt8) : List UInt8 := outP (s.head? == some 47) (leftP (s.head? == some 47) (splL 47 s)) (tailP (leftP (s.head? == some 47) (splL 47 s)) (splL 47 s))
def Comp1 (p : List UInt8) : Prop := p ≠ [] ∧ p ≠ [46] ∧ (47 : UInt8) ∉ p
structure NormP (rooted : Bool) (left : List (List UInt8)) : Prop where
 all : ∀ p ∈ left, Comp1 p
 ups : ∃ n names, left = List.replicate n upP ++ names ∧ (∀ p ∈ names, p ≠ upP) ∧ (rooted = true → n = 0)
theorem NormP.nil (rooted : Bool) : NormP rooted [] := ⟨fun p h => (by cases h), 0, [], rfl, fun p h => (by cases h), fun _ => rfl⟩
theorem NormP.step {rooted : Bool} {left : List (List UInt8)} (h : NormP rooted left) (p : List UInt8) (hp : (47 : UInt8) ∉ p) : NormP rooted (stepP rooted left p) := by
 unfold stepP
 by_cases c1 : p = [] ∨ p = [46]
 · rw [if_pos c1]; exact h
 · rw [if_neg c1]
   have hc : Comp1 p := ⟨fun e => c1 (.inl e), fun e => c1 (.inr e), hp⟩
   obtain ⟨n, names, h1, h2, h3⟩ := h.ups
   by_cases c2 : p = upP
   · rw [if_pos c2]
     by_cases c3 : left ≠ [] ∧ left.getLast? ≠ some upP
     · rw [if_pos c3]
       refine ⟨fun q hq => h.all q ((List.dropLast_sublist left).subset hq), ?_⟩
       rcases List.eq_nil_or_concat names with e | ⟨ns, x, e⟩
       · subst e
         rw [List.append_nil] at h1
         exfalso
         subst h1
         cases n with
         | zero => exact c3.1 rfl
         | succ n => exact c3.2 (by rw [List.replicate_succ', List.getLast?_append]; rfl)
       · rw [List.concat_eq_append] at e
         subst e
         refine ⟨n, ns, ?_, fun q hq => h2 q (by simp [hq]), h3⟩
         rw [h1, ← List.append_assoc, List.dropLast_concat]
     · rw [if_neg c3]
       by_cases c4 : rooted = true
       · rw [if_pos c4]; exact h
       · rw [if_neg c4]
         refine ⟨fun q hq => ?_, ?_⟩
         · rcases List.mem_append.1 hq with h4 | h4
           · exact h.all q h4
           · rw [List.mem_singleton.1 h4]; exact hc
         · rcases List.eq_nil_or_concat names with e | ⟨ns, x, e⟩
           · subst e
             refine ⟨n + 1, [], ?_, fun q hq => (by cases hq), fun e => absurd e c4⟩
             rw [h1, c2, List.append_nil, List.append_nil, List.replicate_succ']
           · rw [List.concat_eq_append] at e
             subst e
             exfalso
             refine c3 ⟨by rw [h1]; simp, ?_⟩
             rw [h1, ← List.append_assoc, List.getLast?_append]
             intro e
             have : x = upP := by simpa using e
             exact h2 x (by simp) this
   · rw [if_neg c2]
     refine ⟨fun q hq => ?_, n, names ++ [p], by rw [h1, List.append_assoc], fun q hq => ?_, h3⟩
     · rcases List.mem_append.1 hq with h4 | h4
       · exact h.all q h4
       · rw [List.mem_singleton.1 h4]; exact hc
     · rcases List.mem_append.1 hq with h4 | h4
       · exact h2 q h4
       · rw [List.mem_singleton.1 h4]; exact c2
theorem fold_names {rooted : Bool} : ∀ (names left : List (List UInt8)), (∀ p ∈ names, Comp1 p ∧ p ≠ upP) → names.foldl (stepP rooted) left = left ++ names
 | [], left, _ => by simp
 | p :: names, left, h => by
  have hp := h p (by simp)
  have e : stepP rooted left p = left ++ [p] := by
   unfold stepP
   rw [if_neg (fun e => e.elim hp.1.1 hp.1.2.1), if_neg hp.2]
  rw [List.foldl_cons, e, fold_names names _ (fun q hq => h q (by simp [hq]))]
  simp
theorem fold_ups : ∀ (n m : Nat), (List.replicate n upP).foldl (stepP false) (List.replicate m upP) = List.replicate (m + n) upP
 | 0, m => rfl
 | n + 1, m => by
  have e : stepP false (List.replicate m upP) upP = List.replicate (m + 1) upP := by
   unfold stepP
   rw [if_neg (by decide), if_pos rfl, if_neg, if_neg (by decide), List.replicate_succ']
   rintro ⟨h1, h2⟩
   cases m with
   | zero => exact h1 rfl
   | succ m => exact h2 (by rw [List.replicate_succ', List.getLast?_append]; rfl)
  rw [List.replicate_succ, List.foldl_cons, e, fold_ups n (m + 1)]
  congr 1
  omega
theorem NormP.stays {rooted : Bool} {left : List (List UInt8)} (h : NormP rooted left) : leftP rooted left = left := by
 obtain ⟨n, names, h1, h2, h3⟩ := h.ups
 unfold leftP
 have hn : ∀ p ∈ names, Comp1 p ∧ p ≠ upP := fun p hp => ⟨h.all p (by rw [h1]; simp [hp]), h2 p hp⟩
 rw [h1, List.foldl_append]
 cases rooted with
 | true => rw [h3 rfl]; exact fold_names names [] hn
 | false =>
  have := fold_ups n 0
  rw [Nat.zero_add] at this
  rw [show ([] : List (List UInt8)) = List.replicate 0 upP from rfl, this]
  exact fold_names names _ hn
end Go.Proofs.YthfjmlcjkbgboaaGreatDoor
namespace Go.Proofs.YthfjmlcjkbgboaaGreatDoor
open Go.RowKit
def wtP (l : List (List UInt8)) : Nat := (l.map fun p => p.length + 1).sum
theorem wtP_append (a b : List (List UInt8)) : wtP (a ++ b) = wtP a + wtP b := by unfold wtP; rw [List.map_append, List.sum_append]
theorem wtP_spl (c : UInt8) (l : List UInt8) : wtP (splL c l) = l.length + 1 := by
 induction l with
 | nil => rfl
 | cons b l ih =>
  rw [splL]
  split
  · have e : wtP ([] :: splL c l) = 1 + wtP (splL c l) := by unfold wtP; simp
    rw [e, ih, List.length_cons]; omega
  · cases h : splL c l with
    | nil => exact absurd h (splL_ne c l)
    | cons x r =>
     rw [h] at ih
     have e1 : wtP ((b :: x) :: r) = x.length + 1 + 1 + wtP r := by unfold wtP; simp
     have e2 : wtP (x :: r) = x.length + 1 + wtP r := by unfold wtP; simp
     rw [e2] at ih
     rw [e1, List.length_cons]; omega
theorem wtP_drop (l : List (List UInt8)) : wtP l.dropLast ≤ wtP l := by
 rcases List.eq_nil_or_concat l with e | ⟨a, x, e⟩
 · subst e; exact Nat.le_refl _
 · rw [List.concat_eq_append] at e
   subst e
   rw [List.dropLast_concat, wtP_append]; omega
theorem wtP_step (rt : Bool) (l : List (List UInt8)) (p : List UInt8) : wtP (stepP rt l p) ≤ wtP l + (p.length + 1) := by
 have h1 : wtP (l ++ [p]) = wtP l + (p.length + 1) := by rw [wtP_append]; rfl
 have h2 := wtP_drop l
 unfold stepP
 (repeat' split) <;> omega
theorem wtP_fold (rt : Bool) : ∀ (ps l : List (List UInt8)), wtP (ps.foldl (stepP rt) l) ≤ wtP l + wtP ps
 | [], l => Nat.le_add_right _ _
 | p :: ps, l => by
  have h1 := wtP_fold rt ps (stepP rt l p)
  have h2 := wtP_step rt l p
  have h3 : wtP (p :: ps) = p.length + 1 + wtP ps := by unfold wtP; simp
  rw [List.foldl_cons, h3]; omega
theorem wtP_join (c : UInt8) : ∀ l : List (List UInt8), (Lib.join l [c]).length ≤ wtP l
 | [] => by simp [Lib.join_nil]
 | x :: r => by
  have ht : ∀ r : List (List UInt8), (Lib.joinTail [c] r).length = wtP r := fun r => by
   induction r with
   | nil => rfl
   | cons y r ih =>
    have h3 : wtP (y :: r) = y.length + 1 + wtP r := by unfold wtP; simp
    rw [h3, ← ih]
    simp only [Lib.joinTail, List.map_cons, List.flatten_cons, List.length_append, List.length_cons, List.length_nil]
    omega
  have h3 : wtP (x :: r) = x.length + 1 + wtP r := by unfold wtP; simp
  rw [Lib.join_cons, List.length_append, ht, h3]; omega
theorem left_wt (rt : Bool) (s : List UInt8) : wtP (leftP rt (splL 47 s)) ≤ s.length + 1 := by
 have h := wtP_fold rt (splL 47 s) []
 rw [wtP_spl] at h
 have e : wtP ([] : List (List UInt8)) = 0 := rfl
 rw [e] at h
 unfold leftP
 omega
theorem path_len (s : List UInt8) : (pathL s).length ≤ s.length + 3 := by
 have h1 := left_wt (s.head? == some 47) s
 have h2 := wtP_join 47 (leftP (s.head? == some 47) (splL 47 s))
 unfold pathL outP
 rw [List.length_append, List.length_append]
 have a : (if (s.head? == some 47) = true then [(47 : UInt8)] else []).length ≤ 1 := by split <;> simp
 have b : (if tailP (leftP (s.head? == some 47) (splL 47 s)) (splL 47 s) = true then [(47 : UInt8)] else []).length ≤ 1 := by split <;> simp
 omega
theorem OwnS.head {w : World} {base : Nat} {v : Value} {l : List ByteArray} (h : OwnS w base v l) (hl : 0 < l.length) : ∃ g c, v = .slice (some ⟨g, 0, none⟩) l.length c ∧ l.length ≤ c := by
 rcases h.2 with ⟨_, h2⟩ | ⟨g, cap, cur, h1, _, _, hc, _⟩
 · omega
 · exact ⟨g, cap, h1, hc⟩
theorem OwnS.pop {w : World} {base g c : Nat} {k : ByteArray} {l : List ByteArray} (h : OwnS w base (.slice (some ⟨g, 0, none⟩) (l ++ [k]).length c) (l ++ [k])) : OwnS w base (.slice (some ⟨g, 0, none⟩) l.length c) l := by
 unfold OwnS at h ⊢
 rw [List.length_append, List.length_singleton, List.map_append] at h
 exact ownsRow_pop (by simp) h
theorem OwnS.cell {w : World} {base g c : Nat} {l : List ByteArray} (h : OwnS w base (.slice (some ⟨g, 0, none⟩) l.length c) l) (k : Nat) (hk : k < l.length) : w.cell? ⟨g, k, none⟩ = some (.string l[k]) := by
 have h1 := World.ownsRow.cells (g := g) h (by simp [Value.ownBlock]) k (.string l[k]) (by simp [hk])
 rw [addr_add] at h1
 exact h1
theorem OwnS.low {w : World} {base b : Nat} {v : Value} {l : List ByteArray} (h : OwnS w base v l) (hb : b ≤ base) : OwnS w b v l :=
 ⟨h.1, h.2.imp_right fun ⟨g, cap, cur, h1, h2, h3⟩ => ⟨g, cap, cur, h1, Nat.le_trans hb h2, h3⟩⟩
theorem Join_own {base : Nat} (L : List ByteArray) (v : Value) (c : UInt8) (w : World) (hO : OwnS w base v L) (hlen : (Lib.join (L.map (·.data.toList)) [c]).length ≤ 140737488355328) (hL : L.length ≤ 140737488355328) :
 Calls Tryz.prog 119 #[v, .string ⟨#[c]⟩] w fun e w' => e = .returned (.string (bs (Lib.join (L.map (·.data.toList)) [c]))) ∧ Below w.heap.size w w' := by
 rcases Nat.eq_zero_or_pos L.length with h0 | hp
 · have hn : L = [] := List.eq_nil_of_length_eq_zero h0
   subst hn
   obtain ⟨Ao, co, rfl, _⟩ := hO.form
   exact (Tryz.strings_Join_none Ao co ⟨#[c]⟩ w).mono fun e w' ⟨h1, h2⟩ => by subst h2; exact ⟨h1, Below.refl _ _⟩
 · obtain ⟨g, co, rfl, hcap⟩ := hO.head hp
   refine Tryz.strings_Join g 0 co L ⟨#[c]⟩ w (fun j x hx => ?_) (hO.lt g (by simp [Value.ownBlock])).2 hL hcap hlen
   obtain ⟨h1, h2⟩ := List.getElem?_eq_some_iff.1 hx
   rw [Nat.zero_add, hO.cell j h1, h2]
theorem beq_dec (a b : List UInt8) : (a == b) = decide (a = b) := by by_cases h : a = b <;> simp [h]
def PaRelP (rt : Bool) (ps : List (List UInt8)) (w w1 : World) (v i : Value) (wr : World) : Prop :=
 ∃ (k : Nat) (L : List ByteArray), k ≤ ps.length ∧ i = .int .i64 k ∧ OwnS wr (w.heap.size + 1) v L ∧ Hid (L.map (·.data.toList) = leftP rt (ps.take k)) ∧ L.length ≤ k ∧ Below (w.heap.size + 1) w1 wr
set_option maxRecDepth 100000 in
set_option maxHeartbeats 3200000 in
theorem Path_any (s : ByteArray) (w : World) (hlib : LibOk w) (hs : s.size ≤ 4194304) : Calls Tryz.prog 71 #[.string s] w fun e w' => e = .returned (.string (bs (pathL s.data.toList))) ∧ Below w.heap.size w w' := by
 obtain ⟨m0, hm0⟩ := hlib
 have hsp := Tryz.strings_Split s ⟨#[47]⟩ m0 w (by omega) hm0 (by decide)
 have hps := split_one 47 s
 have hpl := Lib.splitB_all ⟨#[47]⟩ (by decide) 0 _ s rfl
 generalize Lib.splitB ⟨#[47]⟩ 0 (Lib.countB s ⟨#[47]⟩) s = ps at hsp hps hpl
 generalize Lib.countB s ⟨#[47]⟩ = n at hsp hpl
 rw [← hpl] at hsp
 have hhp := Tryz.strings_HasPrefix s ⟨#[47]⟩ w
 have hpre : Lib.hasPrefix s.data.toList [47] = (s.data.toList.head? == some 47) := by
  unfold Lib.hasPrefix
  cases s.data.toList with
  | nil => rfl
  | cons b r =>
   by_cases hb : b = 47
   · subst hb; rfl
   · simp only [List.isPrefixOf, List.head?_cons, Bool.and_true]
     rw [beq_eq_false_iff_ne.2 (Ne.symm hb), beq_eq_false_iff_ne.2 (fun e => hb (Option.some.inj e))]
 rw [show (ByteArray.mk #[47]).data.toList = [47] from rfl, hpre] at hhp
 have hPL : pathL s.data.toList = outP (s.data.toList.head? == some 47) (leftP (s.data.toList.head? == some 47) (splL 47 s.data.toList)) (tailP (leftP (s.data.toList.head? == some 47) (splL 47 s.data.toList)) (splL 47 s.data.toList)) := rfl
 have hwt := left_wt (s.data.toList.head? == some 47) s.data.toList
 have hsl : s.data.toList.length = s.size := by simp
 rw [hPL]
 generalize (s.data.toList.head? == some 47) = rt at *
 obtain ⟨X, hX⟩ : ∃ X, bs (outP rt (leftP rt (splL 47 s.data.toList)) (tailP (leftP rt (splL 47 s.data.toList)) (splL 47 s.data.toList))) = X := ⟨_, rfl⟩
 rw [hX]
 have HX := Lib.hid hX
 clear hX
 have HPS := Lib.hid hps
 have HSP := Lib.hid hsp
 have HHP := Lib.hid hhp
 have HWT : Hid (wtP (leftP rt (splL 47 s.data.toList)) ≤ 4194305) := by unfold Hid; omega
 have hpn : ps.length ≤ 4194305 := by
  have h1 := congrArg List.length hps
  have h2 := splL_len 47 s.data.toList
  rw [List.length_map] at h1
  omega
 clear hps hsp hpl hhp hpre hPL hwt hm0 hsl
 go_enter Tryz.func71, Tryz.ntmps71
 go_wp2_with fail
 refine HHP.out.mono ?_
 rintro e w0 ⟨rfl, hw0⟩
 rw [hw0]
 clear hw0
 go_wp2_with fail
 refine HSP.out.mono ?_
 rintro e w1 ⟨rfl, hw1⟩
 have hcl : ∀ W, Below (w.heap.size + 1) w1 W → ∀ j (h : j < ps.length), W.cell? ⟨w.heap.size, j, none⟩ = some (.string ps[j]) := fun W hb j h => by
  have hb' : Below (w.alloc (.cells (ps.map Value.string).toArray 9)).heap.size (w.alloc (.cells (ps.map Value.string).toArray 9)) W := by rw [hw1] at hb; simpa using hb
  rw [new_cell hb' j]
  simp [h]
 have hz1 : w1.heap.size = w.heap.size + 1 := by rw [hw1]; simp
 have hbw1 : Below w.heap.size w w1 := by rw [hw1]; exact (Below.refl _ _).alloc (Nat.le_refl _) _
 have hpl : (splL 47 s.data.toList).length = ps.length := by rw [← HPS.out, List.length_map]
 have hpos : 0 < ps.length := by rw [← hpl]; exact List.length_pos_iff.2 (splL_ne 47 _)
 have HCL := Lib.hid hcl
 have HBW1 := Lib.hid hbw1
 have HPL := Lib.hid hpl
 have hge1 : w.heap.size + 1 ≤ w1.heap.size := Nat.le_of_eq hz1.symm
 clear hcl hbw1 hpl hw1 hz1 HSP HHP
 go_wp2_with fail
 go_loopw [5, 17] (fun v i wr => PaRelP rt (splL 47 s.data.toList) w w1 v i wr) (fun _ i _ => ps.length - (intOf i).toNat)
 case atStart => exact ⟨0, [], Nat.zero_le _, rfl, OwnS.nil _ _, rfl, Nat.zero_le _, Below.refl _ _⟩
 case round =>
  obtain ⟨k, L, hk, rfl, hO, HL, hLk, hB⟩ := hrel
  rw [HPL.out] at hk
  have hbase : w.heap.size + 1 ≤ wr.heap.size := Nat.le_trans hge1 hB.size
  have HO := Lib.hid hO
  have HB := Lib.hid hB
  by_cases hlt : k < ps.length
  · have d2 : decide ((k : Int) < (ps.length : Int)) = true := by simp; omega
    have i7 : IntKind.i64.wrap ((k : Int) + 1) = (k : Int) + 1 := IntWalk.i64_in _ (by omega)
    have hc := HCL.out wr hB k hlt
    have HST : Hid (leftP rt ((splL 47 s.data.toList).take (k + 1)) = stepP rt (leftP rt ((splL 47 s.data.toList).take k)) ps[k].data.toList) := by
     unfold Hid
     have hx : (splL 47 s.data.toList)[k]'(by rw [HPL.out]; exact hlt) = ps[k].data.toList := by
      have := HPS.out
      simp only [← this, List.getElem_map]
     rw [List.take_succ_eq_append_getElem (by rw [HPL.out]; exact hlt), hx]
     unfold leftP
     rw [List.foldl_append]
     rfl
    generalize ps[k] = x at hc HST
    rw [← HL.out] at HST
    have hLn : L.length ≤ 4194305 := by omega
    by_cases c0 : x.data.toList = []
    · have q0 : x.toList.isEmpty = true := by rw [Lib.toList_data, c0]; rfl
      have HN : Hid (L.map (·.data.toList) = leftP rt ((splL 47 s.data.toList).take (k + 1))) := by
       unfold Hid
       rw [HST.out]; unfold stepP; rw [if_pos (.inl c0)]
      obtain ⟨Ao, co, rfl, _⟩ := hO.form
      clear c0 hO hB
      go_wp2_with fail
      exact ⟨⟨k + 1, L, by rw [HPL.out]; omega, rfl, HO.out, HN.out, by omega, HB.out⟩, by dsimp only [intOf]; omega⟩
    · have q0 : x.toList.isEmpty = false := by rw [Lib.toList_data]; cases h : x.data.toList with | nil => exact absurd h c0 | cons _ _ => rfl
      by_cases c1 : x.data.toList = [46]
      · have q1 : (x.toList == [46]) = true := by rw [Lib.toList_data, c1]; rfl
        have HN : Hid (L.map (·.data.toList) = leftP rt ((splL 47 s.data.toList).take (k + 1))) := by
         unfold Hid
         rw [HST.out]; unfold stepP; rw [if_pos (.inr c1)]
        obtain ⟨Ao, co, rfl, _⟩ := hO.form
        clear c0 c1 hO hB
        go_wp2_with fail
        exact ⟨⟨k + 1, L, by rw [HPL.out]; omega, rfl, HO.out, HN.out, by omega, HB.out⟩, by dsimp only [intOf]; omega⟩
      · have q1 : (x.toList == [46]) = false := by rw [Lib.toList_data, beq_eq_false_iff_ne]; exact c1
        by_cases c2 : x.data.toList = upP
        · have q2 : (x.toList == [46, 46]) = true := by rw [Lib.toList_data, c2]; rfl
          have c01 : ¬ (x.data.toList = [] ∨ x.data.toList = [46]) := fun e => e.elim c0 c1
          have HST2 : Hid (leftP rt ((splL 47 s.data.toList).take (k + 1)) = if L.map (·.data.toList) ≠ [] ∧ (L.map (·.data.toList)).getLast? ≠ some upP then (L.map (·.data.toList)).dropLast else if rt = true then L.map (·.data.toList) else (L ++ [x]).map (·.data.toList)) := by
           unfold Hid
           rw [HST.out]; unfold stepP; rw [if_neg c01, if_pos c2, List.map_append]; rfl
          rcases List.eq_nil_or_concat L with e | ⟨td, y, e⟩
          · subst e
            cases rt with
            | true =>
             have HN : Hid (([] : List ByteArray).map (·.data.toList) = leftP true ((splL 47 s.data.toList).take (k + 1))) := by
              unfold Hid
              rw [HST2.out, if_neg (fun h => h.1 rfl), if_pos rfl]
             obtain ⟨Ao, co, rfl, _⟩ := hO.form
             dsimp only [List.length_nil] at *
             clear c0 c1 c2 c01 hO hB
             go_wp2_with fail
             exact ⟨⟨k + 1, [], by rw [HPL.out]; omega, rfl, HO.out, HN.out, by simp, HB.out⟩, by dsimp only [intOf]; omega⟩
            | false =>
             have HN : Hid ((([] : List ByteArray) ++ [x]).map (·.data.toList) = leftP false ((splL 47 s.data.toList).take (k + 1))) := by
              unfold Hid
              rw [HST2.out, if_neg (fun h => h.1 rfl), if_neg (by decide)]
             obtain ⟨Ao, co, rfl, _⟩ := hO.form
             dsimp only [List.length_nil] at *
             clear c0 c1 c2 c01 hB
             go_wp2_with (at_builtin; refine wpList_append_s rfl (.tmp 49) (.tmp 51) rfl (w.heap.size + 1) (.slice Ao 0 co) [] rfl hO hbase _ [x] rfl 1 1 rfl rfl (by decide) ?_; intro v5 w5 hO5 hb5 hk5 hz5)
             exact ⟨⟨k + 1, [] ++ [x], by rw [HPL.out]; omega, rfl, hO5, HN.out, by simp, HB.out.trans hb5⟩, by dsimp only [intOf]; omega⟩
          · rw [List.concat_eq_append] at e
            subst e
            obtain ⟨g, co, rfl, hcap⟩ := hO.head (by simp)
            have htop := hO.cell td.length (by simp)
            rw [List.getElem_append_right (Nat.le_refl _)] at htop
            simp only [Nat.sub_self, List.getElem_cons_zero] at htop
            have hpop := hO.pop
            rw [List.length_append, List.length_singleton] at hcap hLk hLn ⊢
            have hlast : ((td ++ [y]).map (·.data.toList)).getLast? = some y.data.toList := by rw [List.map_append, List.getLast?_append]; rfl
            have j0 : decide ((0 : Int) < (td.length : Int) + 1) = true := decide_eq_true (by omega)
            have j1 : wrap64 (td.length : Int) = (td.length : Int) := IntWalk.wrap64_in _ (by omega)
            have j3 : (td.length : Int) < (td.length : Int) + 1 := by omega
            have j5 : td.length ≤ co := by omega
            by_cases cy : y.data.toList = upP
            · have q3 : (y.toList == [46, 46]) = true := by rw [Lib.toList_data, cy]; rfl
              have hcond : ¬ ((td ++ [y]).map (·.data.toList) ≠ [] ∧ ((td ++ [y]).map (·.data.toList)).getLast? ≠ some upP) := fun h => h.2 (by rw [hlast, cy])
              cases rt with
              | true =>
               have HN : Hid ((td ++ [y]).map (·.data.toList) = leftP true ((splL 47 s.data.toList).take (k + 1))) := by
                unfold Hid
                rw [HST2.out, if_neg hcond, if_pos rfl]
               clear c0 c1 c2 c01 cy hcond hlast hO hB hpop
               go_wp2_with fail
               exact ⟨⟨k + 1, td ++ [y], by rw [HPL.out]; omega, rfl, by have := HO.out; simpa using this, HN.out, by simp; omega, HB.out⟩, by dsimp only [intOf]; omega⟩
              | false =>
               have HN : Hid ((td ++ [y] ++ [x]).map (·.data.toList) = leftP false ((splL 47 s.data.toList).take (k + 1))) := by
                unfold Hid
                rw [HST2.out, if_neg hcond, if_neg (by decide)]
               have hO2 : OwnS wr (w.heap.size + 1) (.slice (some ⟨g, 0, none⟩) (td.length + 1) co) (td ++ [y]) := by have := hO; simpa using this
               clear c0 c1 c2 c01 cy hcond hlast hB hpop hO
               go_wp2_with (at_builtin; refine wpList_append_s rfl (.tmp 49) (.tmp 51) rfl (w.heap.size + 1) (.slice (some ⟨g, 0, none⟩) (td.length + 1) co) (td ++ [y]) rfl hO2 hbase _ [x] rfl 1 1 rfl rfl (by simp; omega) ?_; intro v5 w5 hO5 hb5 hk5 hz5)
               exact ⟨⟨k + 1, td ++ [y] ++ [x], by rw [HPL.out]; omega, rfl, hO5, HN.out, by simp; omega, HB.out.trans hb5⟩, by dsimp only [intOf]; omega⟩
            · have q3 : (y.toList == [46, 46]) = false := by rw [Lib.toList_data, beq_eq_false_iff_ne]; exact cy
              have HN : Hid (td.map (·.data.toList) = leftP rt ((splL 47 s.data.toList).take (k + 1))) := by
               unfold Hid
               rw [HST2.out, if_pos ⟨by simp, fun h => cy (by rw [hlast] at h; exact Option.some.inj h)⟩, List.map_append]
               exact (List.dropLast_concat ..).symm
              have HPOP := Lib.hid hpop
              clear c0 c1 c2 c01 cy hlast hO hB hpop
              go_wp2_with fail
              exact ⟨⟨k + 1, td, by rw [HPL.out]; omega, rfl, HPOP.out, HN.out, by omega, HB.out⟩, by dsimp only [intOf]; omega⟩
        · have q2 : (x.toList == [46, 46]) = false := by rw [Lib.toList_data, beq_eq_false_iff_ne]; exact c2
          have HN : Hid ((L ++ [x]).map (·.data.toList) = leftP rt ((splL 47 s.data.toList).take (k + 1))) := by
           unfold Hid
           rw [HST.out]; unfold stepP; rw [if_neg (fun e => e.elim c0 c1), if_neg c2, List.map_append]; rfl
          obtain ⟨Ao, co, rfl, _⟩ := hO.form
          clear c0 c1 c2 hB
          go_wp2_with (at_builtin; refine wpList_append_s rfl (.tmp 22) (.tmp 24) rfl (w.heap.size + 1) (.slice Ao L.length co) L rfl hO hbase _ [x] rfl 1 1 rfl rfl (by omega) ?_; intro v5 w5 hO5 hb5 hk5 hz5)
          exact ⟨⟨k + 1, L ++ [x], by rw [HPL.out]; omega, rfl, hO5, HN.out, by simp; omega, HB.out.trans hb5⟩, by dsimp only [intOf]; omega⟩
  · obtain rfl : k = ps.length := by omega
    have d2 : decide ((ps.length : Int) < (ps.length : Int)) = false := by simp
    have hL2 : L.map (·.data.toList) = leftP rt (splL 47 s.data.toList) := by have := HL.out; rwa [← HPL.out, List.take_length] at this
    have hjl := wtP_join 47 (leftP rt (splL 47 s.data.toList))
    have hj := Join_own L _ 47 wr hO (by rw [hL2]; have := HWT.out; omega) (by omega)
    rw [hL2] at hj
    have hJL : (bs (Lib.join (leftP rt (splL 47 s.data.toList)) [47])).size ≤ 4194305 := by rw [bs_size]; have := HWT.out; omega
    obtain ⟨z, hz, HTL⟩ : ∃ z, ps[ps.length - 1]? = some z ∧ Hid (tailP (leftP rt (splL 47 s.data.toList)) (splL 47 s.data.toList) = ((decide (0 < L.length) && decide (1 < ps.length)) && ((decide (z.data.toList = []) || decide (z.data.toList = [46])) || decide (z.data.toList = upP)))) := by
     refine ⟨ps[ps.length - 1]'(by omega), List.getElem?_eq_getElem _, ?_⟩
     have hla : (splL 47 s.data.toList).getLast?.getD [] = (ps[ps.length - 1]'(by omega)).data.toList := by
      rw [← HPS.out, List.getLast?_eq_getElem?, List.length_map, List.getElem?_map, List.getElem?_eq_getElem (by omega)]
      rfl
     have hle : leftP rt (splL 47 s.data.toList) ≠ [] ↔ 0 < L.length := by
      rw [← hL2]
      constructor
      · intro h; exact List.length_pos_iff.2 (fun e => h (by rw [e]; rfl))
      · intro h e; have := congrArg List.length e; rw [List.length_map] at this; simp at this; subst this; exact absurd h (by decide)
     unfold Hid tailP dotP
     rw [hla, HPL.out]
     simp only [hle]
     rw [Bool.decide_and, Bool.decide_or, Bool.decide_or, Bool.or_assoc]
    have HJ := Lib.hid hj
    have hlz := hz
    obtain ⟨hz1, hz2⟩ := List.getElem?_eq_some_iff.1 hz
    have hcz : ∀ W, Below (w.heap.size + 1) w1 W → W.cell? ⟨w.heap.size, ps.length - 1, none⟩ = some (.string z) := fun W hb => by rw [HCL.out W hb (ps.length - 1) hz1, hz2]
    have HCZ := Lib.hid hcz
    have i8 : IntKind.i64.wrap ((ps.length : Int) - 1) = (ps.length : Int) - 1 := IntWalk.i64_in _ (by omega)
    have i9 : ((ps.length : Int) - 1).toNat = ps.length - 1 := by omega
    have i10 : (0 : Int) ≤ (ps.length : Int) - 1 := by omega
    have i11 : (ps.length : Int) - 1 < (ps.length : Int) := by omega
    obtain ⟨Ao, co, rfl, _⟩ := hO.form
    have HOUT0 : Hid (X = (if rt = true then ByteArray.mk #[47] else ByteArray.mk #[]) ++ bs (Lib.join (leftP rt (splL 47 s.data.toList)) [47]) ++ (if tailP (leftP rt (splL 47 s.data.toList)) (splL 47 s.data.toList) = true then ByteArray.mk #[47] else ByteArray.mk #[])) := by
     unfold Hid
     rw [← HX.out]
     unfold outP
     apply ByteArray.ext
     cases rt <;> cases tailP _ _ <;> simp [bs]
    clear HX
    generalize tailP (leftP rt (splL 47 s.data.toList)) (splL 47 s.data.toList) = T at *
    generalize leftP rt (splL 47 s.data.toList) = left at *
    generalize bs (Lib.join left [47]) = J at *
    clear hO hB hz hlz hz1 hz2 hcz hL2 hjl hj HL
    go_wp2_with fail
    refine HJ.out.mono ?_
    rintro e w5 ⟨rfl, hb5⟩
    have hB5 : Below (w.heap.size + 1) w1 w5 := HB.out.trans (hb5.mono hbase)
    have hbw5 := HBW1.out.trans (hB5.mono (Nat.le_succ _))
    have hc5 := HCZ.out w5 hB5
    clear hb5 HJ HCZ
    go_upto_region 20 with fail
    go_cut [3, 9, 81] from 62 (fun s3 s9 s81 wx => s3 = .bool rt ∧ s9 = .string J ∧ s81 = .bool T ∧ wx = w5)
    case first =>
     cases hn0 : decide (0 < L.length) with
     | false =>
      have e1 : T = false := by rw [HTL.out, hn0]; rfl
      subst e1
      have d3 : decide ((0 : Int) < (L.length : Int)) = false := by have := of_decide_eq_false hn0; exact decide_eq_false (by omega)
      go_wp2_with fail
      go_meet
      exact ⟨rfl, rfl, rfl, rfl⟩
     | true =>
      have d3 : decide ((0 : Int) < (L.length : Int)) = true := by have := of_decide_eq_true hn0; exact decide_eq_true (by omega)
      cases hn1 : decide (1 < ps.length) with
      | false =>
       have e1 : T = false := by rw [HTL.out, hn0, hn1]; rfl
       subst e1
       have d4 : decide ((1 : Int) < (ps.length : Int)) = false := by have := of_decide_eq_false hn1; exact decide_eq_false (by omega)
       go_wp2_with fail
       go_meet
       exact ⟨rfl, rfl, rfl, rfl⟩
      | true =>
       have d4 : decide ((1 : Int) < (ps.length : Int)) = true := by have := of_decide_eq_true hn1; exact decide_eq_true (by omega)
       have HT2 : Hid (T = ((decide (z.data.toList = []) || decide (z.data.toList = [46])) || decide (z.data.toList = upP))) := by unfold Hid; rw [HTL.out, hn0, hn1]; rfl
       have q0 : z.toList.isEmpty = decide (z.data.toList = []) := by rw [Lib.toList_data]; cases z.data.toList <;> simp
       have q1 : (z.toList == [46]) = decide (z.data.toList = [46]) := by rw [Lib.toList_data, beq_dec]
       have q2 : (z.toList == [46, 46]) = decide (z.data.toList = upP) := by rw [Lib.toList_data, beq_dec]; rfl
       generalize decide (z.data.toList = []) = b0 at *
       generalize decide (z.data.toList = [46]) = b1 at *
       generalize decide (z.data.toList = upP) = b2 at *
       have hT2 := HT2.out
       subst hT2
       clear HTL HT2
       cases b0 <;> cases b1 <;> cases b2
       all_goals
        go_wp2_with fail
        go_meet
        exact ⟨rfl, rfl, rfl, rfl⟩
    case rest =>
     obtain ⟨rfl, rfl, rfl, rfl⟩ := hcut
     have hJ2 : (J ++ ByteArray.mk #[47]).size ≤ 4194306 := by rw [ByteArray.size_append]; show J.size + 1 ≤ _; omega
     clear hc5
     cases T <;> cases rt
     all_goals
      go_wp2_with fail
      go_ret
      refine ⟨congrArg (fun x : ByteArray => Ending.returned (Value.string x)) (?_ : _ = X), hbw5⟩
      rw [HOUT0.out]
      apply ByteArray.ext
      simp
end Go.Proofs.YthfjmlcjkbgboaaGreatDoor
