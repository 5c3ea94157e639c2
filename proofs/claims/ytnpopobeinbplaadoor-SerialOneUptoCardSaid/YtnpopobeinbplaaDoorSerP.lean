/- Heads handed on: plainly. -/
import Derived.Test.YtnpopobeinbplaaDoorSerF
import Derived.Test.YtnpopobeinbplaaDoorBakL
import Derived.Test.YtnpopobeinbplaaDoorOpenQ
namespace Go.Proofs.YtnpopobeinbplaaDoor
open Go.RowKit

theorem contains_drop {fs : List PairV} {x : ByteArray} (h : x ∈ hopsB) : Lib.containsS (dropB fs) x = true := (Lib.containsS_iff _ _).2 (List.mem_append.2 (.inl h))
theorem get_strip (fs gs : List PairV) (name : ByteArray) (hn : bs (lowerL name.data.toList) ∈ hopsB) (hg : ∀ f ∈ gs, f ∈ stripF fs ∨ (sameN name f = false)) : getL gs name = [] := by
  unfold getL
  rw [List.map_eq_nil_iff, List.filter_eq_nil_iff]
  intro f hf hs
  rcases hg f hf with h | h
  · have hk := (List.mem_filter.1 h).2
    unfold keepB at hk
    unfold sameN at hs
    rw [beq_iff_eq] at hs
    have : lowN f = bs (lowerL name.data.toList) := by unfold lowN; rw [hs]
    rw [this, contains_drop hn] at hk
    cases hk
  · rw [h] at hs; cases hs
theorem drop_none {fs : List PairV} (h : getL fs connN = []) : dropB fs = hopsB := by unfold dropB; rw [h]; exact List.append_nil _
theorem keep_strip {fs : List PairV} {f : PairV} (h : f ∈ stripF fs) : Lib.containsS hopsB (lowN f) = false := by
  have hk := (List.mem_filter.1 h).2
  unfold keepB at hk
  cases hq : Lib.containsS hopsB (lowN f) with
  | false => rfl
  | true => rw [contains_drop ((Lib.containsS_iff _ _).1 hq)] at hk; cases hk
theorem strip_of {fs gs : List PairV} (h : getL gs connN = []) (hg : ∀ f ∈ gs, f ∈ stripF fs) : stripF gs = gs := by
  unfold stripF
  refine List.filter_eq_self.2 fun f hf => ?_
  unfold keepB
  rw [drop_none h, keep_strip (hg f hf)]
  rfl
theorem conn_low : bs (lowerL connN.data.toList) ∈ hopsB := List.mem_cons.2 (.inl (by rfl))
theorem clen_low : bs (lowerL clen.data.toList) ∈ hopsB := by
  show clen ∈ hopsB
  unfold hopsB
  simp [clen]
theorem clen_mem : clen ∈ hopsB := by
  unfold hopsB
  simp [clen]
theorem tenc_low : bs (lowerL tenc.data.toList) ∈ hopsB := by
  show tenc ∈ hopsB
  unfold hopsB
  simp [tenc]
theorem strip_conn (fs : List PairV) : getL (stripF fs) connN = [] := get_strip fs _ _ conn_low fun _ hf => .inl hf
theorem strip_tenc (fs : List PairV) : getL (stripF fs) tenc = [] := get_strip fs _ _ tenc_low fun _ hf => .inl hf
theorem strip_clen (fs : List PairV) : getL (stripF fs) clen = [] := get_strip fs _ _ clen_low fun _ hf => .inl hf
theorem strip_again (fs : List PairV) : stripF (stripF fs) = stripF fs := strip_of (strip_conn fs) fun _ h => h
theorem cl_low (n : Nat) : lowN (clB n) = clen := by rfl
theorem getL_append (a b : List PairV) (name : ByteArray) : getL (a ++ b) name = getL a name ++ getL b name := by unfold getL; rw [List.filter_append, List.map_append]
theorem cl_conn (n : Nat) : getL [clB n] connN = [] := by rfl
theorem cl_tenc (n : Nat) : getL [clB n] tenc = [] := by rfl
theorem cl_clen (n : Nat) : getL [clB n] clen = [bs (Lib.decDigits n)] := by rfl
/-- The fields handed on. -/
theorem fwd_parts (h : HeadV) (n : Nat) : (fwdH h n).fs = stripF h.fs ∧ (framed h).1 = 1 ∨ (fwdH h n).fs = stripF h.fs ++ [clB n] ∧ (framed h).1 ≠ 1 := by
  unfold fwdH
  by_cases k : (framed h).1 = 1
  · exact .inl ⟨by rw [if_pos k, List.append_nil], k⟩
  · exact .inr ⟨by rw [if_neg k], k⟩
theorem fwd_conn (h : HeadV) (n : Nat) : getL (fwdH h n).fs connN = [] := by
  rcases fwd_parts h n with ⟨e, _⟩ | ⟨e, _⟩
  · rw [e, strip_conn]
  · rw [e, getL_append, strip_conn, cl_conn]; rfl
theorem fwd_strip (h : HeadV) (n : Nat) : stripF (fwdH h n).fs = stripF h.fs := by
  rcases fwd_parts h n with ⟨e, _⟩ | ⟨e, _⟩
  · rw [e, strip_again]
  · have hd := drop_none (fwd_conn h n)
    rw [e] at hd ⊢
    unfold stripF at *
    rw [List.filter_append]
    have h1 : (h.fs.filter (keepB h.fs)).filter (keepB (h.fs.filter (keepB h.fs) ++ [clB n])) = h.fs.filter (keepB h.fs) := by
      refine List.filter_eq_self.2 fun f hf => ?_
      unfold keepB
      unfold keepB at hd
      rw [hd]
      have := keep_strip (fs := h.fs) (f := f) hf
      rw [this]
      rfl
    have h2 : [clB n].filter (keepB (h.fs.filter (keepB h.fs) ++ [clB n])) = [] := by
      refine List.filter_eq_nil_iff.2 fun f hf => ?_
      rw [List.mem_singleton.1 hf]
      unfold keepB
      rw [cl_low, contains_drop clen_mem]
      decide
    rw [h1, h2, List.append_nil]
theorem fwd_framed (h : HeadV) (n : Nat) (hn : n ≤ 4096) : framed (fwdH h n) = if (framed h).1 = 1 then (1, 0, 0) else (2, (n : Int), 0) := by
  rcases fwd_parts h n with ⟨e, k⟩ | ⟨e, k⟩
  · rw [if_pos k]
    unfold framed
    rw [e, strip_clen, strip_tenc]
    rfl
  · rw [if_neg k]
    unfold framed
    rw [e, getL_append, getL_append, strip_clen, strip_tenc, cl_clen, cl_tenc]
    show ofL [bs (Lib.decDigits n)] [] = _
    rw [of_len, bs_toList, dec_num n (by omega)]
    dsimp only
    have : ([bs (Lib.decDigits n)].any fun y => !(y.toList == (bs (Lib.decDigits n)).toList)) = false := by simp
    rw [this]
    rfl
theorem fwd_again (h : HeadV) (n : Nat) (hn : n ≤ 4096) : fwdH (fwdH h n) n = fwdH h n := by
  have hfr := fwd_framed h n hn
  have hs := fwd_strip h n
  have e : fwdH (fwdH h n) n = ⟨h.m, h.t, stripF (fwdH h n).fs ++ (if (framed (fwdH h n)).1 = 1 then [] else [clB n])⟩ := rfl
  rw [e, hs, hfr]
  show _ = (⟨h.m, h.t, _⟩ : HeadV)
  congr 2
  by_cases k : (framed h).1 = 1
  · rw [if_pos k, if_pos rfl, if_pos k]
  · rw [if_neg k, if_neg (by show ¬ (2 : Int) = 1; decide), if_neg k]
structure FwdOk (h : HeadV) (b : List UInt8) : Prop where
  check : checkH h = 0
  err : (framed h).2.2 = 0
  body : (framed h).1 = 1 → b = []
  len : b.length ≤ 4096
  out : checkH (fwdH h b.length) = 0
theorem fwd_ok {h : HeadV} {b : List UInt8} (he : fwdE h b = 0) : FwdOk h b := by
  unfold fwdE at he
  by_cases h1 : checkH h = 0
  · rw [if_neg (fun x => x h1)] at he
    by_cases h2 : (framed h).2.2 = 0
    · rw [if_neg (fun x => x h2)] at he
      by_cases h3 : (framed h).1 = 1 ∧ b ≠ []
      · rw [if_pos h3] at he; cases he
      · rw [if_neg h3] at he
        by_cases h4 : 4096 < b.length
        · rw [if_pos h4] at he; cases he
        · rw [if_neg h4] at he
          exact ⟨h1, h2, fun k => by
            cases b with
            | nil => rfl
            | cons x r => exact absurd ⟨k, List.cons_ne_nil _ _⟩ h3, by omega, he⟩
    · rw [if_pos h2] at he; exact absurd he h2
  · rw [if_pos h1] at he; exact absurd he h1
theorem fwd_zero {h : HeadV} {b : List UInt8} (ho : FwdOk h b) : fwdE h b = 0 := by
  unfold fwdE
  rw [if_neg (fun x => x ho.check), if_neg (fun x => x ho.err), if_neg (fun x => x.2 (ho.body x.1)), if_neg (by have := ho.len; omega)]
  exact ho.out
theorem fwd_twice {h : HeadV} {b : List UInt8} (ho : FwdOk h b) : fwdE (fwdH h b.length) b = 0 := by
  have hfr := fwd_framed h b.length ho.len
  refine fwd_zero ⟨ho.out, ?_, fun k => ?_, ho.len, ?_⟩
  · rw [hfr]; split <;> rfl
  · rw [hfr] at k
    by_cases k1 : (framed h).1 = 1
    · exact ho.body k1
    · rw [if_neg k1] at k; cases k
  · rw [fwd_again h b.length ho.len]; exact ho.out
theorem fwd_one {h : HeadV} {b more : List UInt8} (ho : FwdOk h b) (hl : (printH (fwdH h b.length)).length ≤ 4096) :
    oneR (printH (fwdH h b.length) ++ b ++ more) 4096 4096 = .ok (⟨fwdH h b.length, b⟩, (printH (fwdH h b.length) ++ b).length) := by
  refine one_back ho.out hl ?_
  rw [fwd_framed h b.length ho.len]
  have hb := ho.len
  by_cases k : (framed h).1 = 1
  · rw [if_pos k, ho.body k]
    rfl
  · rw [if_neg k, body_two, if_neg (by omega), if_neg (by rw [List.length_append]; omega), Int.toNat_natCast, List.take_left]

/-! Sizes. -/
theorem pieces_len (v : ByteArray) : (pieceS v).length ≤ v.size + 1 := by
  unfold pieceS
  rw [List.length_map]
  have := splL_len 44 v.data.toList
  have e : v.data.toList.length = v.size := by simp
  omega
def bulkF (l : List PairV) : Nat := (l.map fun x => x.1.size + x.2.size + 2).sum
theorem bulkF_cons (x : PairV) (l : List PairV) : bulkF (x :: l) = (x.1.size + x.2.size + 2) + bulkF l := by unfold bulkF; rw [List.map_cons, List.sum_cons]
theorem bulkF_mem {l : List PairV} : ∀ x ∈ l, x.1.size + x.2.size + 2 ≤ bulkF l := by
  induction l with
  | nil => intro x hx; cases hx
  | cons y l ih =>
    intro x hx
    have e := bulkF_cons y l
    rcases List.mem_cons.1 hx with h | h
    · subst h; omega
    · have := ih x h; omega
theorem drop_bulk (fs : List PairV) (name : ByteArray) : ((getL fs name).flatMap pieceS).length ≤ bulkF fs := by
  induction fs with
  | nil => exact Nat.zero_le _
  | cons f fs ih =>
    rw [bulkF_cons]
    unfold getL at ih ⊢
    rw [List.filter_cons]
    split
    · rw [List.map_cons, List.flatMap_cons, List.length_append]
      have := pieces_len f.2
      omega
    · omega
theorem strip_fine {fs : List PairV} (hn : fs.length ≤ 1048577) (hb : bulkF fs ≤ 1048576) : StripOk fs := by
  refine ⟨by omega, fun f hf => ?_, ?_⟩
  · have := bulkF_mem f hf
    omega
  · unfold dropB
    rw [List.length_append]
    have := drop_bulk fs connN
    show 8 + _ ≤ _
    omega
theorem strip_fine2 {fs gs : List PairV} (hok : StripOk fs) (hg : ∀ f ∈ gs, f ∈ fs) (hn : gs.length ≤ 4194304) (hc : getL gs connN = []) : StripOk gs :=
  ⟨hn, fun f hf => hok.sz f (hg f hf), by rw [drop_none hc]; decide⟩
theorem bulkF_le {H : Type} : ∀ l : List PairV, bulkF l ≤ Rows.uptoBulkAll (l.map fun f => (fieldD f : DataW H)) ∧ l.length ≤ Rows.uptoBulkAll (l.map fun f => (fieldD f : DataW H))
  | [] => ⟨Nat.le_refl _, Nat.le_refl _⟩
  | x :: l => by
    have ih := bulkF_le (H := H) l
    have e1 : x.1.data.toList.length = x.1.size := by simp
    have e2 : x.2.data.toList.length = x.2.size := by simp
    rw [List.map_cons, Rows.uptoBulkAll, bulkF_cons, List.length_cons]
    simp only [fieldD, Rows.uptoBulk, Rows.uptoBulkAll, e1, e2]
    simp only [fieldD] at ih
    omega
structure ReqSum (a : RqV) : Prop where
  n : a.fs.length ≤ 1048576
  sum : bulkF a.fs ≤ 1048576
theorem request2_bulk {H : Type} {a : RqV} {d : DataW H} (h : ReqDat a d) (hb : Rows.uptoBulk d ≤ 1048576) : ReqSum a := by
  obtain ⟨y, rfl, hy⟩ := h
  simp only [Rows.uptoBulk, Rows.uptoBulkAll] at hb
  rcases hy with ⟨_, h⟩ | ⟨sp, rfl⟩
  · exact ⟨by rw [h]; exact Nat.zero_le _, by rw [h]; exact Nat.zero_le _⟩
  · have : bulkF a.fs ≤ Rows.uptoBulkAll (a.fs.map (fieldD (H := H))) ∧ a.fs.length ≤ Rows.uptoBulkAll (a.fs.map (fieldD (H := H))) := bulkF_le a.fs
    simp only [Rows.uptoBulk] at hb
    exact ⟨by omega, by omega⟩
end Go.Proofs.YtnpopobeinbplaaDoor
