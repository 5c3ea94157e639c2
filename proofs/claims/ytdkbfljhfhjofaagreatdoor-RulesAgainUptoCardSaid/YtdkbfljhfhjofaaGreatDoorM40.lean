/- Part 40 of the proof: lemmas and walks that the last texts use. -/
import Derived.Test.YtdkbfljhfhjofaaGreatDoorM09
import Derived.Test.YtdkbfljhfhjofaaGreatDoorM10
import Derived.Test.YtdkbfljhfhjofaaGreatDoorM36
import Derived.Deep.RegionHeld3
import Derived.BigRegion
import Derived.BigQuiet
import Derived.Deep.QuietTactic
import Derived.Laws.Concat
namespace Go.Proofs.YtdkbfljhfhjofaaGreatDoor
open Go.RowKit
theorem ruHead_own {w : World} {base : Nat} {v : Value} {l : List ByteArray} (h : OwnS w base v l) (hl : 0 < l.length) : ∃ g c, v = .slice (some ⟨g, 0, none⟩) l.length c ∧ l.length ≤ c := by
  rcases h.2 with ⟨_, h2⟩ | ⟨g, cap, cur, h1, _, _, hc, _⟩
  · omega
  · exact ⟨g, cap, h1, hc⟩
theorem ruCell_own {w : World} {base g c : Nat} {l : List ByteArray} (h : OwnS w base (.slice (some ⟨g, 0, none⟩) l.length c) l) (k : Nat) (hk : k < l.length) : w.cell? ⟨g, k, none⟩ = some (.string l[k]) := by
  have h1 := World.ownsRow.cells (g := g) h (by simp [Value.ownBlock]) k (.string l[k]) (by simp [hk])
  rw [addr_add] at h1
  exact h1
theorem ruJoin_own {base : Nat} (L : List ByteArray) (v : Value) (c : UInt8) (w : World) (hO : OwnS w base v L) (hlen : (Lib.join (L.map (·.data.toList)) [c]).length ≤ 140737488355328) (hL : L.length ≤ 140737488355328) (hp : 0 < L.length) :
    Calls Tryz.prog 39 #[v, .string ⟨#[c]⟩] w fun e w' => e = .returned (.string (bs (Lib.join (L.map (·.data.toList)) [c]))) ∧ Below w.heap.size w w' := by
  obtain ⟨g, co, rfl, hcap⟩ := ruHead_own hO hp
  refine Tryz.strings_Join g 0 co L ⟨#[c]⟩ w (fun j x hx => ?_) (World.ownsRow.lt hO g (by simp [Value.ownBlock])).2 hL hcap hlen
  obtain ⟨h1, h2⟩ := List.getElem?_eq_some_iff.1 hx
  rw [Nat.zero_add, ruCell_own hO j h1, h2]
theorem ruJoin_len (c : UInt8) (m : Nat) : ∀ ws : List (List UInt8), (∀ w ∈ ws, w.length ≤ m) → (Lib.join ws [c]).length ≤ ws.length * (m + 1)
  | [], _ => by simp [Lib.join_nil]
  | w :: r, h => by
    have ht : ∀ r : List (List UInt8), (∀ w ∈ r, w.length ≤ m) → (Lib.joinTail [c] r).length ≤ r.length * (m + 1) := fun r => by
      induction r with
      | nil => intro _; simp [Lib.joinTail]
      | cons x r ih =>
        intro h
        have h1 := ih fun w hw => h w (by simp [hw])
        have h2 := h x (by simp)
        simp only [Lib.joinTail, List.map_cons, List.flatten_cons, List.length_append, List.length_cons, List.length_nil] at h1 ⊢
        rw [Nat.succ_mul]
        omega
    rw [Lib.join_cons, List.length_append]
    have h1 := ht r fun x hx => h x (by simp [hx])
    have h2 := h w (by simp)
    simp only [List.length_cons]
    rw [Nat.succ_mul]
    omega
theorem mode_at (m : Int) (hm : m = 0 ∨ m = 1 ∨ m = 2) (W : World) : (Instr.index 144 (.agg #[.string (ByteArray.mk #[]), .string (ByteArray.mk #[35]), .string (ByteArray.mk #[33])]) (.int .i64 m)).run Tryz.prog W = .ok (.string (bs (modeL m))) W := by
  rcases hm with rfl | rfl | rfl
  · exact run_arr Tryz.underlying144 _ _ 0 (by decide) rfl W
  · exact run_arr Tryz.underlying144 _ _ 1 (by decide) rfl W
  · exact run_arr Tryz.underlying144 _ _ 2 (by decide) rfl W
theorem wordLen (ws : List (List UInt8)) (n : Nat) (h : ws.all (fun w => decide (w.length ≤ n)) = true) (k : Int) : (wordAt ws k).length ≤ n := by
  unfold wordAt
  rw [List.getD_eq_getElem?_getD]
  cases hq : ws[k.toNat]? with
  | none => exact Nat.zero_le _
  | some x => simpa using List.all_eq_true.1 h x (List.mem_of_getElem? hq)
theorem varL_len {v : RuVar} (h : varC v = 0) : (varL v).length ≤ 40 := by
  obtain ⟨hk, hm, hn⟩ := varC_ok h
  have l1 : (modeL v.m).length ≤ 1 := by rcases hm with e | e | e <;> rw [e] <;> decide
  have l2 := wordLen varWs 10 (by decide) v.k
  unfold varL
  rw [List.length_append, List.length_append]
  split
  · rw [List.length_nil]; omega
  · rename_i h0
    have := hn h0
    unfold namedL at this
    simp only [Bool.and_eq_true, decide_eq_true_eq] at this
    rw [List.length_cons]
    omega
theorem dec1000 (n : Nat) (h : n ≤ 1000000) : (decS n).length ≤ 7 := by
  unfold decS
  exact (dec_len 6 n (by show n < 10000000; omega)).2
theorem actL_len {a : RuAct} (h : actC a = 0) : (actL a).length ≤ 40 := by
  obtain ⟨hk, h0, h1⟩ := actC_ok h
  have l2 := wordLen actWs 5 (by decide) a.k
  have l3 := dec1000 a.n.toNat (by omega)
  unfold actL
  rw [List.length_append]
  split
  · rw [List.length_cons]; omega
  · rw [List.length_nil]; omega
set_option maxRecDepth 100000 in
set_option maxHeartbeats 800000 in
theorem varText_any (v : RuVar) (h : varC v = 0) (w : World) : Calls Tryz.prog 41 #[.agg #[.int .i64 v.k, .int .i64 v.m, .string v.n]] w (StrPost (bs (varL v)) w) := by
  obtain ⟨hk, hm, hn⟩ := varC_ok h
  have hnl : v.n.size ≤ 20 := by
    have e : v.n.data.toList.length = v.n.size := by simp
    by_cases h0 : v.n.data.toList = []
    · rw [h0] at e; simp at e; omega
    · have := hn h0
      unfold namedL at this
      simp only [Bool.and_eq_true, decide_eq_true_eq] at this
      omega
  have l1 : (modeL v.m).length ≤ 1 := by rcases hm with e | e | e <;> rw [e] <;> decide
  have l2 := wordLen varWs 10 (by decide) v.k
  have HW := Lib.hid fun W => varWord_any v.k (by omega) (by omega) W
  have hi := fun W => mode_at v.m hm W
  have HD : Hid (varL v = modeL v.m ++ wordAt varWs v.k ++ (if v.n.data.toList = [] then [] else 58 :: v.n.data.toList)) := rfl
  generalize varL v = R at *
  obtain ⟨k, m, n⟩ := v
  dsimp only at *
  generalize modeL m = X at *
  generalize wordAt varWs k = Y at *
  clear hk hm hn h
  unfold StrPost
  by_cases h0 : n.data.toList = []
  · have q1 : (n.toList == []) = true := by rw [Lib.toList_data, h0]; rfl
    have q2 : n.toList.isEmpty = true := by rw [Lib.toList_data, h0]; rfl
    have HR : Hid (R = X ++ Y) := Lib.hid (by rw [HD.out, if_pos h0, List.append_nil])
    clear HD h0
    go_enter Tryz.func41, Tryz.ntmps41
    go_wp2_with fail
    go_quiet ((go_at_call 85; exact Calls.quiet_of_same (HW.out _)))
    go_wp2_with fail
    go_ret
    exact ⟨ret_str (by rw [HR.out]), below_drewN ((Below.refl _ _).alloc (Nat.le_refl _) _) nq⟩
  · have q1 : (n.toList == []) = false := by rw [Lib.toList_data]; exact beq_eq_false_iff_ne.2 h0
    have q2 : n.toList.isEmpty = false := by rw [Lib.toList_data]; cases hh : n.data.toList with | nil => exact absurd hh h0 | cons a r => rfl
    have HR : Hid (bs R = bs (X ++ Y) ++ (ByteArray.mk #[58] ++ n)) := Lib.hid (by
      rw [HD.out, if_neg h0]
      have e : ByteArray.mk #[58] ++ n = bs (58 :: n.data.toList) := by
        have := bs_append [58] n.data.toList
        rw [bs_eta] at this
        exact this
      rw [e, bs_append])
    clear HD h0
    go_enter Tryz.func41, Tryz.ntmps41
    go_wp2_with fail
    go_quiet ((go_at_call 85; exact Calls.quiet_of_same (HW.out _)))
    go_wp2_with fail
    go_ret
    exact ⟨ret_str (by rw [HR.out]), below_drewN ((Below.refl _ _).alloc (Nat.le_refl _) _) nq⟩
set_option maxRecDepth 100000 in
set_option maxHeartbeats 800000 in
theorem actText_any (a : RuAct) (h : actC a = 0) (w : World) (htab : TabOk w) : Calls Tryz.prog 45 #[.agg #[.int .i64 a.k, .int .i64 a.n]] w (StrPost (bs (actL a)) w) := by
  obtain ⟨hk, h0, h1⟩ := actC_ok h
  have l2 := wordLen actWs 5 (by decide) a.k
  have l3 := dec1000 a.n.toNat (by omega)
  have HW := Lib.hid fun W => actWord_any a.k (by omega) (by omega) W
  have hi : ∀ W, Below w.heap.size w W → Calls Tryz.prog 17 #[.int .i64 a.n] W fun e w' => e = .returned (.string (bs (decS a.n.toNat))) ∧ Below W.heap.size W w' := fun W hb => by
    have := itoa_any a.n.toNat W (by omega) (htab.below hb)
    rw [show ((a.n.toNat : Nat) : Int) = a.n by omega] at this
    exact this
  have HI := Lib.hid hi
  have HD : Hid (actL a = wordAt actWs a.k ++ (if 0 < a.n then 58 :: decS a.n.toNat else [])) := rfl
  have HB0 : Hid (∀ o, Below w.heap.size w (w.alloc o)) := fun o => (Below.refl _ _).alloc (Nat.le_refl _) _
  generalize actL a = R at *
  obtain ⟨k, n⟩ := a
  dsimp only at *
  generalize decS n.toNat = X at *
  generalize wordAt actWs k = Y at *
  clear hk h hi htab
  unfold StrPost
  by_cases hn : 0 < n
  · have HR : Hid (bs R = bs Y ++ ByteArray.mk #[58] ++ bs X) := Lib.hid (by
      rw [HD.out, if_pos hn]
      have e : bs Y ++ ByteArray.mk #[58] = bs (Y ++ [58]) := bs_append Y [58]
      rw [e, bs_append, List.append_assoc]; rfl)
    have l4 : (bs Y).size ≤ 5 := l2
    have l5 : (bs X).size ≤ 7 := l3
    clear HD l2 l3
    generalize bs Y = E1 at *
    generalize bs X = E2 at *
    have y1 : ∀ W, (Op.stringOp .add E1 (ByteArray.mk #[58])).run Tryz.prog W = .ok (.string (E1 ++ ByteArray.mk #[58])) W := fun W => run_string_add_sum W E1 _ (by show E1.size + 1 ≤ _; omega)
    have y2 : ∀ W, (Op.stringOp .add (E1 ++ ByteArray.mk #[58]) E2).run Tryz.prog W = .ok (.string (E1 ++ ByteArray.mk #[58] ++ E2)) W := fun W => run_string_add_sum W _ E2 (by rw [ByteArray.size_append]; show E1.size + 1 + E2.size ≤ _; omega)
    clear l4 l5
    go_enter Tryz.func45, Tryz.ntmps45
    go_wp2_with fail
    go_region_held3 (fun w' => w'.cell? ⟨w.heap.size, 0, none⟩ = some (.int .i64 k) ∧ w'.cell? ⟨w.heap.size, 1, none⟩ = some (.int .i64 n))
      (first | exact (box_facts hb2).elim fun a _ => ⟨a 0, a 1⟩ | go_keep | fail "keep")
      (first
        | (go_at_call 87; (with_reducible refine (HW.out _).mono ?_); rintro e w1 ⟨rfl, rfl⟩)
        | (go_at_call 17; (with_reducible refine (HI.out _ ?_).mono ?_); (first | exact HB0.out _ | exact (HB0.out _).drew); rintro e w2 ⟨rfl, hb2'⟩; have hb2 : Below (w.heap.size + 1) (w.alloc (.cells #[.int .i64 k, .int .i64 n] 70)) w2 := (by first | (have := undrew hb2'; simpa using this) | simpa using hb2')) | fail "arm")
    go_wp2_with fail
    go_ret
    exact ⟨ret_str HR.out.symm, (box_facts hb2).2⟩
  · have HR : Hid (R = Y) := Lib.hid (by rw [HD.out, if_neg hn, List.append_nil])
    clear HD
    go_enter Tryz.func45, Tryz.ntmps45
    go_wp2_with fail
    refine (HW.out _).mono ?_
    rintro e w1 ⟨rfl, rfl⟩
    go_wp2_with fail
    go_ret
    exact ⟨ret_str (by rw [HR.out]), HB0.out _⟩
def JnVRel (f : RuVar → List UInt8) (l : List RuVar) (w : World) (v i : Value) (wr : World) : Prop :=
  ∃ k : Nat, k ≤ l.length ∧ i = .int .i64 k ∧ OwnS wr w.heap.size v ((l.take k).map fun x => bs (f x)) ∧ Below w.heap.size w wr
set_option maxRecDepth 100000 in
set_option maxHeartbeats 800000 in
theorem joinedV_any (g : Nat) (eg : ∀ args w, (callFunc g args).run Tryz.prog w = .ok (.enter g args) w) (f : RuVar → List UInt8) (l : List RuVar) (A : Option Addr) (c : Nat) (w : World)
    (h : Sl w w.heap.size 3 A l.length (l.flatMap cellsRuV)) (hl : l.length ≤ 8) (hp0 : 0 < l.length) (hlen : ∀ x ∈ l, (f x).length ≤ 40)
    (hp : ∀ W, ∀ x ∈ l, Below w.heap.size w W → Calls Tryz.prog g #[.agg #[.int .i64 x.k, .int .i64 x.m, .string x.n]] W (StrPost (bs (f x)) W)) :
    Calls Tryz.prog 40 #[.slice A l.length c, .func (.func g) #[] #[]] w (StrPost (bs (Lib.join (l.map f) [44])) w) := by
  have HP := Lib.hid hp
  have HT : Hid (∀ k (hk : k < l.length), (l.take (k + 1)).map (fun x => bs (f x)) = (l.take k).map (fun x => bs (f x)) ++ [bs (f l[k])]) := fun k hk => by rw [List.take_succ_eq_append_getElem hk, List.map_append]; rfl
  have HJ : Hid ((Lib.join (l.map f) [44]).length ≤ 140737488355328) := Lib.hid (by
    have := ruJoin_len 44 40 (l.map f) (fun w hw => by obtain ⟨x, hx, rfl⟩ := List.mem_map.1 hw; exact hlen x hx)
    rw [List.length_map] at this
    omega)
  have HM : Hid ((l.map fun x => bs (f x)).map (·.data.toList) = l.map f) := Lib.hid (by rw [List.map_map]; rfl)
  clear hp hlen
  unfold StrPost
  go_enter Tryz.func40, Tryz.ntmps40
  go_wp2_with fail
  go_loopw [5, 10] (fun v i wr => JnVRel f l w v i wr) (fun _ i _ => l.length - (intOf i).toNat)
  case atStart => exact ⟨0, Nat.zero_le _, rfl, OwnS.nil _ _, Below.refl _ _⟩
  case round =>
    obtain ⟨k, hk, rfl, hO, hb⟩ := hrel
    by_cases hlt : k < l.length
    · obtain ⟨b, off, rfl, hbB, x0, x1, x2⟩ := ruV_at (h.below hb) k hlt
      have hc := fun W hW => HP.out W l[k] (List.getElem_mem hlt) hW
      have HTK := Lib.hid (HT.out k hlt)
      have hll : ((l.take k).map fun x => bs (f x)).length ≤ 8 := by rw [List.length_map, List.length_take]; omega
      generalize (l.take k).map (fun x => bs (f x)) = acc at hO HTK hll
      generalize l[k] = x at *
      obtain ⟨p, q, r⟩ := x
      dsimp only at x0 x1 x2 hc
      have hz := hb.size
      have HC := Lib.hid (hc _ (hb.alloc hz (.cells #[.int .i64 p, .int .i64 q, .string r] 49)))
      have i7 : IntKind.i64.wrap ((k : Int) + 1) = (k : Int) + 1 := IntWalk.i64_in _ (by omega)
      obtain ⟨Ao, co, rfl, _⟩ := hO.form
      have HO := Lib.hid hO
      clear hc hO
      generalize f ⟨p, q, r⟩ = y at *
      unfold StrPost at HC
      go_wp2_with (first | (go_at_fn g; refine HC.out.mono ?_; rintro e w1 ⟨rfl, hb1⟩; have hb2 := hb.trans (below_new hb1 hz); have hO2 := HO.out.below (below_new hb1 (Nat.le_refl _)); have hz2 := hb2.size) | (at_builtin; refine wpList_append_s rfl (.tmp 14) (.tmp 18) rfl w.heap.size (.slice Ao acc.length co) acc rfl hO2 hz2 _ [bs y] rfl 1 1 rfl rfl (by omega) ?_; intro v5 w5 hO5 hb5 hk5 hz5))
      exact ⟨⟨k + 1, by omega, rfl, by rw [HTK.out]; exact hO5, hb2.trans hb5⟩, by dsimp only [intOf]; omega⟩
    · obtain rfl : k = l.length := by omega
      rw [List.take_length] at hO
      have HJN := Lib.hid (ruJoin_own _ _ 44 wr hO (by rw [HM.out]; exact HJ.out) (by rw [List.length_map]; omega) (by rw [List.length_map]; exact hp0))
      rw [HM.out] at HJN
      generalize (l.map fun x => bs (f x)) = acc at hO
      obtain ⟨Ao, co, rfl, _⟩ := hO.form
      clear hO
      go_wp2_with fail
      refine HJN.out.mono ?_
      rintro e w5 ⟨rfl, hb5⟩
      go_wp2_with fail
      go_ret
      exact ⟨rfl, hb.trans (hb5.mono hb.size)⟩
def JnARel (f : RuAct → List UInt8) (l : List RuAct) (w : World) (v i : Value) (wr : World) : Prop :=
  ∃ k : Nat, k ≤ l.length ∧ i = .int .i64 k ∧ OwnS wr w.heap.size v ((l.take k).map fun x => bs (f x)) ∧ Below w.heap.size w wr
set_option maxRecDepth 100000 in
set_option maxHeartbeats 800000 in
theorem joinedA_any (g : Nat) (eg : ∀ args w, (callFunc g args).run Tryz.prog w = .ok (.enter g args) w) (f : RuAct → List UInt8) (l : List RuAct) (A : Option Addr) (c : Nat) (w : World)
    (h : Sl w w.heap.size 2 A l.length (l.flatMap cellsRuA)) (hl : l.length ≤ 8) (hp0 : 0 < l.length) (hlen : ∀ x ∈ l, (f x).length ≤ 40)
    (hp : ∀ W, ∀ x ∈ l, Below w.heap.size w W → Calls Tryz.prog g #[.agg #[.int .i64 x.k, .int .i64 x.n]] W (StrPost (bs (f x)) W)) :
    Calls Tryz.prog 44 #[.slice A l.length c, .func (.func g) #[] #[]] w (StrPost (bs (Lib.join (l.map f) [44])) w) := by
  have HP := Lib.hid hp
  have HT : Hid (∀ k (hk : k < l.length), (l.take (k + 1)).map (fun x => bs (f x)) = (l.take k).map (fun x => bs (f x)) ++ [bs (f l[k])]) := fun k hk => by rw [List.take_succ_eq_append_getElem hk, List.map_append]; rfl
  have HJ : Hid ((Lib.join (l.map f) [44]).length ≤ 140737488355328) := Lib.hid (by
    have := ruJoin_len 44 40 (l.map f) (fun w hw => by obtain ⟨x, hx, rfl⟩ := List.mem_map.1 hw; exact hlen x hx)
    rw [List.length_map] at this
    omega)
  have HM : Hid ((l.map fun x => bs (f x)).map (·.data.toList) = l.map f) := Lib.hid (by rw [List.map_map]; rfl)
  clear hp hlen
  unfold StrPost
  go_enter Tryz.func44, Tryz.ntmps44
  go_wp2_with fail
  go_loopw [5, 10] (fun v i wr => JnARel f l w v i wr) (fun _ i _ => l.length - (intOf i).toNat)
  case atStart => exact ⟨0, Nat.zero_le _, rfl, OwnS.nil _ _, Below.refl _ _⟩
  case round =>
    obtain ⟨k, hk, rfl, hO, hb⟩ := hrel
    by_cases hlt : k < l.length
    · obtain ⟨b, off, rfl, hbB, x0, x1⟩ := ruA_at (h.below hb) k hlt
      have hc := fun W hW => HP.out W l[k] (List.getElem_mem hlt) hW
      have HTK := Lib.hid (HT.out k hlt)
      have hll : ((l.take k).map fun x => bs (f x)).length ≤ 8 := by rw [List.length_map, List.length_take]; omega
      generalize (l.take k).map (fun x => bs (f x)) = acc at hO HTK hll
      generalize l[k] = x at *
      obtain ⟨p, q⟩ := x
      dsimp only at x0 x1 hc
      have hz := hb.size
      have HC := Lib.hid (hc _ (hb.alloc hz (.cells #[.int .i64 p, .int .i64 q] 70)))
      have i7 : IntKind.i64.wrap ((k : Int) + 1) = (k : Int) + 1 := IntWalk.i64_in _ (by omega)
      obtain ⟨Ao, co, rfl, _⟩ := hO.form
      have HO := Lib.hid hO
      clear hc hO
      generalize f ⟨p, q⟩ = y at *
      unfold StrPost at HC
      go_wp2_with (first | (go_at_fn g; refine HC.out.mono ?_; rintro e w1 ⟨rfl, hb1⟩; have hb2 := hb.trans (below_new hb1 hz); have hO2 := HO.out.below (below_new hb1 (Nat.le_refl _)); have hz2 := hb2.size) | (at_builtin; refine wpList_append_s rfl (.tmp 14) (.tmp 18) rfl w.heap.size (.slice Ao acc.length co) acc rfl hO2 hz2 _ [bs y] rfl 1 1 rfl rfl (by omega) ?_; intro v5 w5 hO5 hb5 hk5 hz5))
      exact ⟨⟨k + 1, by omega, rfl, by rw [HTK.out]; exact hO5, hb2.trans hb5⟩, by dsimp only [intOf]; omega⟩
    · obtain rfl : k = l.length := by omega
      rw [List.take_length] at hO
      have HJN := Lib.hid (ruJoin_own _ _ 44 wr hO (by rw [HM.out]; exact HJ.out) (by rw [List.length_map]; omega) (by rw [List.length_map]; exact hp0))
      rw [HM.out] at HJN
      generalize (l.map fun x => bs (f x)) = acc at hO
      obtain ⟨Ao, co, rfl, _⟩ := hO.form
      clear hO
      go_wp2_with fail
      refine HJN.out.mono ?_
      rintro e w5 ⟨rfl, hb5⟩
      go_wp2_with fail
      go_ret
      exact ⟨rfl, hb.trans (hb5.mono hb.size)⟩
end Go.Proofs.YtdkbfljhfhjofaaGreatDoor
namespace Go.Proofs.YtdkbfljhfhjofaaGreatDoor
open Go.RowKit
/-- A rule that is right, and has not too many variables and acts. -/
structure OneFit (x : RuOne) : Prop where
  ok : OneOk x
  vs : x.vars.length ≤ 8
  acs : x.acts.length ≤ 6
theorem ruJoin8 (a0 a1 a2 a3 a4 a5 a6 a7 : ByteArray) (w : World) (h : a0.size + a1.size + a2.size + a3.size + a4.size + a5.size + a6.size + a7.size ≤ 140737488355000) :
    Calls Tryz.prog 39 #[.slice (some ⟨w.heap.size, 0, none⟩) 8 8, .string ⟨#[32]⟩] (w.alloc (.cells #[.string a0, .string a1, .string a2, .string a3, .string a4, .string a5, .string a6, .string a7] 9))
      (StrPost (bs (Lib.join [a0.data.toList, a1.data.toList, a2.data.toList, a3.data.toList, a4.data.toList, a5.data.toList, a6.data.toList, a7.data.toList] [32])) (w.alloc (.cells #[.string a0, .string a1, .string a2, .string a3, .string a4, .string a5, .string a6, .string a7] 9))) := by
  refine Tryz.strings_Join w.heap.size 0 8 [a0, a1, a2, a3, a4, a5, a6, a7] ⟨#[32]⟩ _ (fun j x hx => ?_) (by simp) (by simp) (by simp) ?_
  · rw [Nat.zero_add, cell_of_row (w.alloc _) w.heap.size j _ _ (0, 0) (heap_alloc_new w _)]
    have hj := (List.getElem?_eq_some_iff.1 hx).1
    have e : #[Value.string a0, .string a1, .string a2, .string a3, .string a4, .string a5, .string a6, .string a7] = ([a0, a1, a2, a3, a4, a5, a6, a7].map Value.string).toArray := rfl
    rw [e, List.getElem?_toArray, List.getElem?_map, hx]; rfl
  · have q : ∀ a : ByteArray, a.data.toList.length = a.size := fun a => by simp
    simp only [List.map_cons, List.map_nil, Lib.join_cons, Lib.joinTail, List.flatten_cons, List.flatten_nil, List.length_append, List.length_cons, List.length_nil, q]
    omega
set_option maxRecDepth 100000 in
set_option maxHeartbeats 3200000 in
theorem text_any (x : RuM) (w : World) (hin : RuIn w w.heap.size x) (hf : OneFit x.r) (hs : RuSmall x.r) (htab : TabOk w) :
    Calls Tryz.prog 18 #[.agg (cellsRu x).toArray] w (StrPost (bs (lineR x.r)) w) := by
  have hok := hf.ok
  have hl1 : 0 < x.r.vars.length := List.length_pos_iff.2 hok.some
  have hl2 : 0 < x.r.acts.length := List.length_pos_iff.2 hok.one
  have hp := fun W (hb : Below w.heap.size w W) => Print_any x.r.pipe x.pA x.pc W ((hin.pipe.below hb).more hb.size) hs.pipe
  have hv := fun W (hb : Below w.heap.size w W) => joinedV_any 41 (enters_of Tryz.func41 (by kernel_rfl) rfl) varL x.r.vars x.vA x.vc W ((hin.vars.below hb).more hb.size) hf.vs hl1 (fun y hy => varL_len (hok.vars y hy)) (fun W' y hy _ => varText_any y (hok.vars y hy) W')
  have ha := fun W (hb : Below w.heap.size w W) => joinedA_any 45 (enters_of Tryz.func45 (by kernel_rfl) rfl) actL x.r.acts x.aA x.ac W ((hin.acts.below hb).more hb.size) (by have := hf.acs; omega) hl2 (fun y hy => actL_len (hok.acts y hy)) (fun W' y hy hb' => actText_any y (hok.acts y hy) W' ((htab.below hb).below hb'))
  have ho := fun W => opWord_any x.r.op (by have := hok.op1; omega) (by have := hok.op2; omega) W
  have hq := fun W => Quote_any x.r.arg W hs.arg
  have hi : ∀ (z : Int) W, Below w.heap.size w W → 0 ≤ z → z ≤ 9999 → Calls Tryz.prog 17 #[.int .i64 z] W (StrPost (bs (decS z.toNat)) W) := fun z W hb h0 h1 => by
    have := itoa_any z.toNat W (by omega) (htab.below hb)
    rw [show ((z.toNat : Nat) : Int) = z by omega] at this
    exact this
  have h1 := hok.id1; have h2 := hok.id2; have h3 := hok.ph1; have h4 := hok.ph2
  have z1 := dec1000 x.r.id.toNat (by omega)
  have z2 := dec1000 x.r.phase.toNat (by omega)
  have z3 : (Lib.join (x.r.vars.map varL) [44]).length ≤ 400 := by
    have := ruJoin_len 44 40 (x.r.vars.map varL) (fun w hw => by obtain ⟨y, hy, rfl⟩ := List.mem_map.1 hw; exact varL_len (hok.vars y hy))
    rw [List.length_map] at this
    have := hf.vs; omega
  have z4 : (Lib.join (x.r.acts.map actL) [44]).length ≤ 400 := by
    have := ruJoin_len 44 40 (x.r.acts.map actL) (fun w hw => by obtain ⟨y, hy, rfl⟩ := List.mem_map.1 hw; exact actL_len (hok.acts y hy))
    rw [List.length_map] at this
    have := hf.acs; omega
  have z5 : (printP x.r.pipe).length ≤ 64 := by
    have hk := checkP_ok.1 hok.pipe
    unfold printP
    by_cases hl : x.r.pipe = []
    · rw [if_pos hl]; decide
    · rw [if_neg hl]
      have := join_len 44 (x.r.pipe.map wordI) fun w hw => by
        obtain ⟨x, hx, rfl⟩ := List.mem_map.1 hw
        exact (word_ok (hk.2 x hx).1 (hk.2 x hx).2).2.2.2.2
      rw [List.length_map] at this
      omega
  have z6 := wordLen opWs 6 (by decide) x.r.op
  have z7 : (quoteL x.r.arg.data.toList).length ≤ 4194304 + 8 := by
    have hqb : ∀ b : UInt8, (quoteB b).length ≤ 4 := fun b => by have := all_bytes (p := fun b => decide ((quoteB b).length ≤ 4)) (by decide +kernel) b; simpa using this
    have hsz : x.r.arg.data.toList.length = x.r.arg.size := by simp
    have hq4 : ∀ l : List UInt8, (l.flatMap quoteB).length ≤ l.length * 4 := fun l => by
      induction l with
      | nil => simp
      | cons b r ih => rw [List.flatMap_cons, List.length_append, List.length_cons]; have := hqb b; omega
    have := hs.arg
    have := hq4 x.r.arg.data.toList
    unfold quoteL
    split
    · simp
    · split
      · simp
      · omega
  have hdef : bs (lineR x.r) = bs (Lib.join [if x.r.chain then chainW else ruleW, decS x.r.id.toNat, decS x.r.phase.toNat, Lib.join (x.r.vars.map varL) [44], printP x.r.pipe, (if x.r.no then [33] else []) ++ wordAt opWs x.r.op, quoteL x.r.arg.data.toList, Lib.join (x.r.acts.map actL) [44]] [32]) := rfl
  unfold PrintPost at hp
  rw [hok.pipe, if_pos rfl] at hp
  generalize bs (lineR x.r) = res at *
  clear hf hok hin hs htab hl1 hl2
  obtain ⟨⟨id, ph, vars, pipe, no, op, arg, acts, chain⟩, vA, vc, pA, pc, aA, ac⟩ := x
  unfold cellsRu
  dsimp only at *
  generalize vars.length = nv at *
  generalize acts.length = na at *
  generalize pipe.length = np at *
  have HI1 := Lib.hid (fun W hb => hi id W hb (by omega) (by omega))
  have HI2 := Lib.hid (fun W hb => hi ph W hb (by omega) (by omega))
  have hj := fun (W : World) => ruJoin8 (bs (if chain then chainW else ruleW)) (bs (decS id.toNat)) (bs (decS ph.toNat)) (bs (Lib.join (vars.map varL) [44])) (bs (printP pipe)) (bs ((if no then [33] else []) ++ wordAt opWs op)) (bs (quoteL arg.data.toList)) (bs (Lib.join (acts.map actL) [44])) W (by
    have u1 : (if chain then chainW else ruleW).length ≤ 5 := by cases chain <;> decide
    have u2 : ((if no then [33] else []) ++ wordAt opWs op).length ≤ 7 := by cases no <;> simp <;> omega
    simp only [bs_size]
    omega)
  simp only [bs_toList] at hj
  rw [← hdef] at hj
  have hadd : ∀ W, (Op.stringOp .add (bs (if no then [33] else [])) (bs (wordAt opWs op))).run Tryz.prog W = .ok (.string (bs ((if no then [33] else []) ++ wordAt opWs op))) W := fun W => by
    rw [run_string_add_sum W _ _ (by simp only [bs_size]; cases no <;> simp <;> omega), bs_append]
  generalize bs ((if no then [33] else []) ++ wordAt opWs op) = E5 at *
  generalize bs (wordAt opWs op) = X5 at *
  generalize bs (Lib.join (vars.map varL) [44]) = E3 at *
  generalize bs (Lib.join (acts.map actL) [44]) = E7 at *
  generalize bs (printP pipe) = E4 at *
  generalize bs (quoteL arg.data.toList) = E6 at *
  generalize bs (decS id.toNat) = E1 at *
  generalize bs (decS ph.toNat) = E2 at *
  have HV := Lib.hid hv
  have HA := Lib.hid ha
  have HO := Lib.hid ho
  have HQ := Lib.hid hq
  have HP := Lib.hid hp
  have HB0 : Hid (∀ o, Below w.heap.size w (w.alloc o)) := fun o => (Below.refl _ _).alloc (Nat.le_refl _) _
  clear hv ha ho hq hp hdef hi h1 h2 h3 h4 z1 z2 z3 z4 z5 z6 z7
  obtain ⟨W0, hW0⟩ : ∃ W0, W0 = w.alloc (.cells #[.int .i64 id, .int .i64 ph, .slice vA nv vc, .slice pA np pc, .bool no, .int .i64 op, .string arg, .slice aA na ac, .bool chain] 39) := ⟨_, rfl⟩
  have HS : Hid (∀ W, Below (w.heap.size + 1) W0 W → (W.cell? ⟨w.heap.size, 0, none⟩ = some (.int .i64 id) ∧ W.cell? ⟨w.heap.size, 1, none⟩ = some (.int .i64 ph) ∧ W.cell? ⟨w.heap.size, 2, none⟩ = some (.slice vA nv vc) ∧ W.cell? ⟨w.heap.size, 5, none⟩ = some (.int .i64 op) ∧ W.cell? ⟨w.heap.size, 6, none⟩ = some (.string arg) ∧ W.cell? ⟨w.heap.size, 7, none⟩ = some (.slice aA na ac)) ∧ Below w.heap.size w W) := fun W hb => by
    subst hW0
    obtain ⟨a, b⟩ := box_facts hb
    exact ⟨⟨a 0, a 1, a 2, a 5, a 6, a 7⟩, b⟩
  have hz0 : W0.heap.size = w.heap.size + 1 := by rw [hW0]; simp
  have HB1 : Hid (∀ W, Below W0.heap.size W0 W → Below (w.heap.size + 1) W0 W) := fun W hb => by rw [hz0] at hb; exact hb
  have hz1 : w.heap.size + 1 ≤ W0.heap.size := Nat.le_of_eq hz0.symm
  clear hz0
  cases chain <;> cases no
  all_goals
    first
      | have HJ : Hid (∀ W : World, Calls Tryz.prog 39 #[.slice (some ⟨W.heap.size, 0, none⟩) 8 8, .string ⟨#[32]⟩] (W.alloc (.cells #[.string (ByteArray.mk #[114, 117, 108, 101]), .string E1, .string E2, .string E3, .string E4, .string E5, .string E6, .string E7] 9)) (StrPost res (W.alloc (.cells #[.string (ByteArray.mk #[114, 117, 108, 101]), .string E1, .string E2, .string E3, .string E4, .string E5, .string E6, .string E7] 9)))) := Lib.hid hj
      | have HJ : Hid (∀ W : World, Calls Tryz.prog 39 #[.slice (some ⟨W.heap.size, 0, none⟩) 8 8, .string ⟨#[32]⟩] (W.alloc (.cells #[.string (ByteArray.mk #[99, 104, 97, 105, 110]), .string E1, .string E2, .string E3, .string E4, .string E5, .string E6, .string E7] 9)) (StrPost res (W.alloc (.cells #[.string (ByteArray.mk #[99, 104, 97, 105, 110]), .string E1, .string E2, .string E3, .string E4, .string E5, .string E6, .string E7] 9)))) := Lib.hid hj
    first
      | have hadd2 : ∀ W, (Op.stringOp .add (ByteArray.mk #[]) X5).run Tryz.prog W = .ok (.string E5) W := hadd
      | have hadd2 : ∀ W, (Op.stringOp .add (ByteArray.mk #[33]) X5).run Tryz.prog W = .ok (.string E5) W := hadd
    clear hj hadd
    go_enter Tryz.func18, Tryz.ntmps18
    go_wp2_with fail
    rw [← hW0]
    refine (HP.out _ (by rw [hW0]; exact HB0.out _)).mono ?_
    rintro e w1 ⟨rfl, hb1⟩
    have hB := HB1.out _ hb1
    clear hb1 hW0
    have hst := (HS.out _ hB).1
    obtain ⟨x0, x1, x2, x5, x6, x7⟩ := hst
    have hst := (HS.out _ hB).1
    go_wp2_with fail
    go_region_held3 (fun w' => w'.cell? ⟨w.heap.size, 0, none⟩ = some (.int .i64 id) ∧ w'.cell? ⟨w.heap.size, 1, none⟩ = some (.int .i64 ph) ∧ w'.cell? ⟨w.heap.size, 2, none⟩ = some (.slice vA nv vc) ∧ w'.cell? ⟨w.heap.size, 5, none⟩ = some (.int .i64 op) ∧ w'.cell? ⟨w.heap.size, 6, none⟩ = some (.string arg) ∧ w'.cell? ⟨w.heap.size, 7, none⟩ = some (.slice aA na ac))
      (first | exact (HS.out _ hB).1 | exact (HS.out _ (hB.drew)).1 | exact (HS.out _ (hB.alloc (Nat.le_trans hz1 hB.size) _)).1 | go_keep | fail "keep")
      (first
        | (go_at_call 17; (first | (with_reducible refine (HI1.out _ ?_).mono ?_) | (with_reducible refine (HI2.out _ ?_).mono ?_)); (first | exact (HS.out _ hB).2 | exact (HS.out _ hB).2.drew); rintro e w2 ⟨rfl, hb2⟩; have hB : Below (w.heap.size + 1) W0 w2 := (by first | exact hB.trans (hb2.mono (Nat.le_trans hz1 hB.size)) | exact hB.trans ((undrew hb2).mono (Nat.le_trans hz1 hB.size))); clear hb2)
        | (go_at_call 40; (with_reducible refine (HV.out _ ?_).mono ?_); (first | exact (HS.out _ hB).2 | exact (HS.out _ hB).2.drew); rintro e w3 ⟨rfl, hb2⟩; have hB : Below (w.heap.size + 1) W0 w3 := (by first | exact hB.trans (hb2.mono (Nat.le_trans hz1 hB.size)) | exact hB.trans ((undrew hb2).mono (Nat.le_trans hz1 hB.size))); clear hb2)
        | (go_at_call 42; (with_reducible refine (HO.out _).mono ?_); rintro e w4 ⟨rfl, rfl⟩)
        | (go_at_call 43; (with_reducible refine (HQ.out _).mono ?_); rintro e w5 ⟨rfl, hb2⟩; have hB : Below (w.heap.size + 1) W0 w5 := (by first | exact hB.trans (hb2.mono (Nat.le_trans hz1 hB.size)) | exact hB.trans ((undrew hb2).mono (Nat.le_trans hz1 hB.size))); clear hb2)
        | (go_at_call 44; (with_reducible refine (HA.out _ ?_).mono ?_); (first | exact (HS.out _ hB).2 | exact (HS.out _ hB).2.drew); rintro e w6 ⟨rfl, hb2⟩; have hB : Below (w.heap.size + 1) W0 w6 := (by first | exact hB.trans (hb2.mono (Nat.le_trans hz1 hB.size)) | exact hB.trans ((undrew hb2).mono (Nat.le_trans hz1 hB.size))); clear hb2)
        | (go_at_call 39; (with_reducible refine (HJ.out _).mono ?_); rintro e w7 ⟨rfl, hb2⟩; have hB : Below (w.heap.size + 1) W0 w7 := (hB.alloc (Nat.le_trans hz1 hB.size) _).trans (hb2.mono (Nat.le_trans (Nat.le_trans hz1 hB.size) (by simp))); clear hb2)
        | fail "arm")
    go_wp2_with fail
    go_ret
    exact ⟨rfl, (HS.out _ hB).2⟩
end Go.Proofs.YtdkbfljhfhjofaaGreatDoor
