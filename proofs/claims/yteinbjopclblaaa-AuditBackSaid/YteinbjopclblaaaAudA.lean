/- The walks of audit.All and of slices.EqualFunc at records. -/
import Derived.Test.YteinbjopclblaaaRecs
import Derived.Test.YteinbjopclblaaaAudE
import Derived.Test.YteinbjopclblaaaSame
import Derived.Shelf.GgClosure.Gives
namespace Go.Proofs.Yteinbjopclblaaa
open Go.RowKit

def strLen : Value → Nat
  | .string s => s.size
  | _ => 0
def AllPost (l : List Rec) (w : World) (e : Ending) (w' : World) : Prop :=
  ∃ v rs, e = .returned (.tuple #[v, .int .i64 0]) ∧ OwnR w' w.heap.size v rs ∧ rs.map RC.re = l ∧ (∀ x ∈ rs, RcOwn w' x) ∧ Below w.heap.size w w'
def AllRel (B : Nat) (W : World) (l : List Rec) (s v : Value) (wr : World) : Prop :=
  ∃ (k : Nat) (rs : List RC), k ≤ l.length ∧ s = .string (bs ((l.drop k).flatMap encL)) ∧ OwnR wr B v rs ∧ rs.map RC.re = l.take k ∧ (∀ x ∈ rs, RcOwn wr x) ∧ Below B W wr
theorem enc_ne (r : Rec) (x : List UInt8) : encL r ++ x ≠ [] := by unfold encL; simp
theorem dec_front (r : Rec) (x : List UInt8) (h : checkR r = 0) : decL (encL r ++ x) = .inr (r, (encL r).length) := by
  have := dec_cut r x (encL r ++ x).length h
  rw [List.take_length, if_pos (by rw [List.length_append]; omega)] at this
  exact this
theorem flat_enc_len (l : List Rec) (h : ∀ r ∈ l, checkR r = 0) : (l.flatMap encL).length ≤ 1185 * l.length := by
  induction l with
  | nil => simp
  | cons r t ih =>
    have ok := check_ok (h r (by simp))
    have h1 := enc_len r
    have h2 := ok.len
    have h3 := ok.tlen
    have h4 := ih fun x hx => h x (by simp [hx])
    rw [List.flatMap_cons, List.length_append, List.length_cons]
    omega
theorem drop_flat (l : List Rec) (k : Nat) (hk : k < l.length) : (l.drop k).flatMap encL = encL l[k] ++ (l.drop (k + 1)).flatMap encL := by
  rw [List.drop_eq_getElem_cons hk, List.flatMap_cons]

/-- A record that was read stands with the others. -/
theorem all_step {B : Nat} {W1 wr W2 w3 : World} {v : Value} {rs : List RC} {r : Rec} {A : Option Addr} {c : Nat} {l : List Rec} {k : Nat} (hk : k < l.length) (hr : l[k] = r) (hrs : rs.map RC.re = l.take k) (hin : ∀ x ∈ rs, RcOwn wr x)
    (hb1 : Below wr.heap.size wr W1) (hnew : OwnI W1 0 (.slice A r.matched.length c) r.matched) (hl : r.matched.length ≤ 9223372036854775807) (hb2 : Below W1.heap.size W1 W2)
    (hO : OwnR W2 B v rs) (hkeep : ∀ g, g < W2.heap.size → v.ownBlock ≠ some g → w3.heap[g]? = W2.heap[g]?) :
    (rs ++ [RC.mk r A c]).map RC.re = l.take (k + 1) ∧ ∀ x ∈ rs ++ [RC.mk r A c], RcOwn w3 x := by
  refine ⟨?_, fun x hx => ?_⟩
  · rw [List.map_append, hrs, List.take_succ_eq_append_getElem hk, hr]; rfl
  · rcases List.mem_append.1 hx with h | h
    · exact (((hin x h).below hb1).below hb2).past hO hkeep
    · rw [List.mem_singleton.1 h]
      exact (RcOwn.below (x := ⟨r, A, c⟩) ⟨hnew, hl⟩ hb2).past hO hkeep

set_option maxRecDepth 100000 in
set_option maxHeartbeats 1600000 in
theorem All_good (l : List Rec) (w : World) (hok : ∀ r ∈ l, checkR r = 0) (hl : l.length * 72 ≤ 140737488351232) :
    Calls Try.prog 46 #[.string (bs (l.flatMap encL))] w (AllPost l w) := by
  have HOK := Lib.hid hok
  clear hok
  go_enter Try.func46, Try.ntmps46
  go_wp2_with fail
  go_loopw [0, 4] (fun s v wr => AllRel w.heap.size w l s v wr) (fun s _ _ => strLen s)
  case atStart => exact ⟨0, [], Nat.zero_le _, rfl, OwnR.nil _ _, rfl, by simp, Below.refl _ _⟩
  case round =>
    obtain ⟨k, rs, hk, rfl, hO, hrs, hin, hb⟩ := hrel
    obtain ⟨A0, c0, rfl, _⟩ := hO.form
    by_cases hlt : k < l.length
    · have hck := HOK.out _ (List.getElem_mem hlt)
      have ok := check_ok hck
      have hml := ok.len
      have hdf := drop_flat l k hlt
      have hsz := flat_enc_len (l.drop k) fun r hr => HOK.out r (List.mem_of_mem_drop hr)
      rw [List.length_drop] at hsz
      have hdc := dec_front l[k] ((l.drop (k + 1)).flatMap encL) hck
      have hne := enc_ne l[k] ((l.drop (k + 1)).flatMap encL)
      have hel : 0 < (encL l[k]).length := by rw [enc_len]; omega
      rw [← hdf] at hdc hne
      have hdl : ((l.drop k).flatMap encL).drop (encL l[k]).length = (l.drop (k + 1)).flatMap encL := by rw [hdf, List.drop_left]
      have hll : (encL l[k]).length ≤ ((l.drop k).flatMap encL).length := by rw [hdf, List.length_append]; omega
      have hrl : rs.length ≤ k := by have := congrArg List.length hrs; rw [List.length_map, List.length_take] at this; omega
      obtain ⟨r, hr⟩ : ∃ r, l[k] = r := ⟨_, rfl⟩
      rw [hr] at hdc hdl hll hml hel
      have HR := Lib.hid hr
      generalize (l.drop k).flatMap encL = X at *
      generalize (encL r).length = n at *
      have HDL := Lib.hid hdl
      have qe : X.isEmpty = false := by simpa using hne
      have hX : X.length ≤ 4611686018427387904 := by omega
      have HST := fun A c W1 W2 w3 v h1 h2 h3 h4 h5 => all_step (B := w.heap.size) (W1 := W1) (wr := wr) (W2 := W2) (w3 := w3) (v := v) (A := A) (c := c) hlt hr hrs hin h1 h2 (by omega) h3 h4 h5
      have HSTEP := Lib.hid HST
      have HRS := Lib.hid hrs
      have hz : w.heap.size ≤ wr.heap.size := hb.size
      clear HST hr hdl hdf hne hck hrs hin ok
      go_wp2_with fail
      refine (Decode_any _ _ (by rw [bs_size]; exact hX)).mono ?_
      rintro e w1 hp
      rw [bs_toList, hdc] at hp
      obtain ⟨A, c, rfl, _, hb1, hown⟩ := hp
      have hO1 := hO.below hb1
      have hO2 : OwnR (w1.alloc (.cells #[.int .i64 r.conn, .int .i64 r.out, .int .i64 r.by_, .int .i64 r.score, .slice A r.matched.length c, .string (bs r.target)] 51)) w.heap.size _ rs := hO1.below ((Below.refl _ _).alloc (Nat.le_refl _) _)
      have hz1 := hb1.size
      unfold recV
      clear hdc
      have hdrop : Hid ((bs X).extract n X.length = bs ((l.drop (k + 1)).flatMap encL)) := by
        unfold Hid
        rw [← HDL.out]
        refine ext_bs ?_
        rw [Lib.extract_data]
        rw [bs_toList, List.take_of_length_le (by rw [List.length_drop]; omega)]
      have hshort : ((l.drop (k + 1)).flatMap encL).length < X.length := by rw [← HDL.out, List.length_drop]; omega
      have qn : (n : Int) ≤ (X.length : Int) := by omega
      have i0 : 0 ≤ (n : Int) := by omega
      go_wp2_with (at_builtin; refine wpList_append_r rfl (.tmp 19) (.tmp 21) rfl w.heap.size _ rs rfl hO2 (by simp; omega) _ ⟨r, A, c⟩ rfl (w1.heap.size + 1) (by simp) 1 rfl (by omega) ?_; intro v' w3 hO3 hb3 hk3 hz3)
      obtain ⟨q1, q2⟩ := HSTEP.out A c w1 _ w3 _ hb1 hown ((Below.refl _ _).alloc (Nat.le_refl _) _) hO2 hk3
      have hbx : ∀ o, Below w.heap.size w (w1.alloc o) := fun o => (hb.trans (hb1.mono hz)).alloc (Nat.le_trans hz hz1) o
      rw [hdrop.out]
      exact ⟨⟨k + 1, rs ++ [RC.mk r A c], by omega, rfl, hO3, q1, q2, (hbx _).trans hb3⟩, by simpa [strLen, bs_size] using hshort⟩
    · obtain rfl : k = l.length := by omega
      have hX : (l.drop l.length).flatMap encL = [] := by simp
      rw [hX]
      rw [List.take_length] at hrs
      clear hX
      go_wp2_with fail
      go_ret2
      exact ⟨_, rs, rfl, hO, hrs, hin, hb⟩

set_option maxRecDepth 100000 in
set_option maxHeartbeats 1600000 in
theorem EqualF_yes (l1 l2 : List RC) (A1 A2 : Option Addr) (c1 c2 : Nat) (w : World) (h1 : Sl w w.heap.size 6 A1 l1.length (l1.flatMap cellsR)) (h2 : Sl w w.heap.size 6 A2 l2.length (l2.flatMap cellsR))
    (he : l1.map RC.re = l2.map RC.re) (i1 : ∀ x ∈ l1, RcIn w w.heap.size x) (i2 : ∀ x ∈ l2, RcIn w w.heap.size x) (hl : l1.length ≤ 4611686018427387904) :
    Calls Try.prog 47 #[.slice A1 l1.length c1, .slice A2 l2.length c2, .func (.func 31) #[] #[]] w (BoolPost true w) := by
  have hlen : l1.length = l2.length := by have := congrArg List.length he; rwa [List.length_map, List.length_map] at this
  have HI1 := Lib.hid i1
  have HI2 := Lib.hid i2
  have HE : Hid (∀ (k : Nat) (x y : RC), l1[k]? = some x → l2[k]? = some y → x.re = y.re) := fun k x y q1 q2 => by
    have : (l1.map RC.re)[k]? = (l2.map RC.re)[k]? := by rw [he]
    rw [List.getElem?_map, List.getElem?_map, q1, q2] at this
    exact Option.some.inj this
  rw [← hlen] at h2 ⊢
  have HLEN := Lib.hid hlen
  clear hlen he i1 i2
  generalize hn : l1.length = n at *
  have HN := Lib.hid hn
  clear hn
  go_enter Try.func47, Try.ntmps47
  go_wp2_with fail
  go_loopw [17] (fun i wr => ∃ k : Nat, k ≤ n ∧ i = .int .i64 k ∧ Below w.heap.size w wr) (fun i _ => n - (intOf i).toNat)
  case atStart => exact ⟨0, Nat.zero_le _, rfl, Below.refl _ _⟩
  case round =>
    obtain ⟨k, hk, rfl, hb⟩ := hrel
    by_cases hlt : k < n
    · have q1 : k < l1.length := by rw [HN.out]; exact hlt
      have q2 : k < l2.length := by rw [← HLEN.out]; exact hlt
      obtain ⟨b, off, rfl, hbB, x0, x1, x2, x3, x4, x5⟩ := rows_at wr _ _ _ l1 (h1.below hb) k q1
      obtain ⟨b', off', rfl, hbB', y0, y1, y2, y3, y4, y5⟩ := rows_at wr _ _ _ l2 (h2.below hb) k q2
      have r1 := (HI1.out _ (List.getElem_mem q1)).keep hb (Nat.le_refl _)
      have r2 := (HI2.out _ (List.getElem_mem q2)).keep hb (Nat.le_refl _)
      have he := HE.out k _ _ (List.getElem?_eq_getElem q1) (List.getElem?_eq_getElem q2)
      generalize l1[k] = X at *
      generalize l2[k] = Y at *
      obtain ⟨⟨co, ou, by', sc, ms, tg⟩, a1, d1⟩ := X
      obtain ⟨ry, a2, d2⟩ := Y
      dsimp only at he
      subst he
      dsimp only [RcIn, RC.ints] at r1 r2 x0 x1 x2 x3 x4 x5 y0 y1 y2 y3 y4 y5
      have hsr := fun W => SameRecord_yes ⟨co, ou, by', sc, ms, tg⟩ a1 a2 d1 d2 W
      unfold recV at hsr
      dsimp only at hsr
      have HSR := Lib.hid hsr
      have hzr : w.heap.size ≤ wr.heap.size := hb.size
      have hq1 : b < wr.heap.size := by omega
      have hq2 : b' < wr.heap.size := by omega
      obtain ⟨s1, s2⟩ := r1
      obtain ⟨s3, _⟩ := r2
      clear hsr
      go_wp2_with fail
      refine (HSR.out _ (((s1.more hzr).alloc (Nat.le_refl _) _).alloc (by simp) _ |>.more (by simp; omega)) (((s3.more hzr).alloc (Nat.le_refl _) _).alloc (by simp) _ |>.more (by simp; omega)) s2).mono ?_
      rintro e w1 ⟨rfl, hb1⟩
      go_wp2_with fail
      go_roundw
      case rel => exact ⟨k + 1, by omega, by go_num, hb.trans ((((Below.refl _ _).alloc hzr _).alloc (by simp; omega) _).trans (hb1.mono (by simp; omega)))⟩
      case measure => simp [intOf] <;> omega
    · obtain rfl : k = n := by omega
      go_wp2_with fail
      go_ret
      exact ⟨rfl, hb⟩
end Go.Proofs.Yteinbjopclblaaa
