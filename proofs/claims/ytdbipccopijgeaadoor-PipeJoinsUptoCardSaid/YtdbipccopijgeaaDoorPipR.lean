/- The walks of pipe.tried, pipe.one, pipe.Run. -/
import Derived.Test.YtdbipccopijgeaaDoorPipA
import Derived.Test.YtdbipccopijgeaaDoorHtml
import Derived.Test.YtdbipccopijgeaaDoorB64D
import Derived.Test.YtdbipccopijgeaaDoorCmd
import Derived.Test.YtdbipccopijgeaaDoorPatW
import Derived.Test.YtdbipccopijgeaaDoorJoins
import Derived.Test.YtdbipccopijgeaaDoorItoa
import Derived.Test.YtdbipccopijgeaaDoorHexL
namespace Go.Proofs.YtdbipccopijgeaaDoor
open Go.RowKit

def oneP (k : Int) (l : List UInt8) : List UInt8 :=
  if k = 1 then lowerL l else if k = 2 then urlDecL l else if k = 3 then (hexDecL l).getD l else if k = 4 then (b64D l).getD l else if k = 5 then htmlDecL l else if k = 6 then pathL l
  else if k = 7 then squeezeL l else if k = 8 then outL [0] l else if k = 9 then trimL l else if k = 10 then Lib.decDigits l.length else cmdL l
def foldP (ks : List Int) (l : List UInt8) : List UInt8 := ks.foldl (fun l k => oneP k l) l
theorem b64Go_len : ∀ (l : List UInt8) (n b : Nat) (r : List UInt8), decGo n b l = some r → r.length ≤ l.length
  | [], n, b, r, h => by
    unfold decGo at h
    split at h
    · cases h
    · cases h; exact Nat.le_refl _
  | x :: l, n, b, r, h => by
    unfold decGo at h
    split at h
    · cases h
    · split at h
      · have := b64Go_len l _ _ r h
        rw [List.length_cons]; omega
      · cases hq : decGo ((n * 64 + (idx x).toNat) % 2 ^ (b - 2)) (b - 2) l with
        | none => rw [hq] at h; cases h
        | some q =>
          rw [hq] at h
          have := b64Go_len l _ _ q hq
          cases h
          rw [List.length_cons, List.length_cons]; omega
theorem trimE_len (l : List UInt8) : (trimE l).length ≤ l.length := by
  unfold trimE Lib.trimSuffix
  split
  · rw [List.length_take]; exact Nat.min_le_right _ _
  · exact Nat.le_refl _
theorem b64D_len {l r : List UInt8} (h : b64D l = some r) : r.length ≤ l.length := by
  unfold b64D at h
  split at h
  · cases h
  · have h1 := b64Go_len _ _ _ _ h
    have h2 := trimE_len (trimE l)
    have h3 := trimE_len l
    omega
theorem oneP_len (k : Int) (l : List UInt8) (hl : l.length < 1000000) : (oneP k l).length ≤ l.length + 6 := by
  unfold oneP
  split
  · unfold lowerL; rw [List.length_map]; omega
  · split
    · have := urlDec_len l; omega
    · split
      · cases h : hexDecL l with
        | none => rw [Option.getD_none]; omega
        | some r => have := hexDec_len _ l r (Nat.le_refl _) h; rw [Option.getD_some]; omega
      · split
        · cases h : b64D l with
          | none => rw [Option.getD_none]; omega
          | some r => have := b64D_len h; rw [Option.getD_some]; omega
        · split
          · have := htmlDec_len l; omega
          · split
            · have := path_len l; omega
            · split
              · have := sq_len l false; unfold squeezeL; omega
              · split
                · have : (outL [0] l).length ≤ l.length := List.length_filter_le _ _
                  omega
                · split
                  · have := trim_length l; omega
                  · split
                    · have := (dec_len 5 l.length (by omega)).2; omega
                    · have := cmd_len l; omega

theorem tried_ok (o : Option (List UInt8)) (l : List UInt8) : o.getD l = (match o with | some r => r | none => l) := by cases o <;> rfl
set_option maxRecDepth 100000 in
set_option maxHeartbeats 800000 in
theorem tried_hex (s : ByteArray) (w : World) (hs : s.size ≤ 140737488351232) :
    Calls Tryd.prog 83 #[.string s, .func (.func 84) #[] #[]] w fun e w' => e = .returned (.string (bs ((hexDecL s.data.toList).getD s.data.toList))) ∧ Below w.heap.size w w' := by
  have HH := Lib.hid (HexDecode_any s w hs)
  cases ho : hexDecL s.data.toList with
  | none =>
    rw [ho] at HH
    unfold strRes ResPost at HH
    dsimp only at HH
    clear ho
    rw [Option.getD_none, bs_eta]
    go_enter Tryd.func83, Tryd.ntmps83
    go_wp2_with fail
    refine HH.out.mono ?_
    rintro e w1 ⟨rfl, hb⟩
    go_wp2_with fail
    go_ret
    exact ⟨rfl, hb⟩
  | some r =>
    rw [ho] at HH
    unfold strRes ResPost at HH
    dsimp only at HH
    clear ho
    rw [Option.getD_some]
    go_enter Tryd.func83, Tryd.ntmps83
    go_wp2_with fail
    refine HH.out.mono ?_
    rintro e w1 ⟨rfl, hb⟩
    go_wp2_with fail
    go_ret
    exact ⟨rfl, hb⟩
set_option maxRecDepth 100000 in
set_option maxHeartbeats 800000 in
theorem tried_b64 (s : ByteArray) (w : World) (hs : s.size ≤ 140737488351232) :
    Calls Tryd.prog 83 #[.string s, .func (.func 85) #[] #[]] w fun e w' => e = .returned (.string (bs ((b64D s.data.toList).getD s.data.toList))) ∧ Below w.heap.size w w' := by
  have HH := Lib.hid (Base64Decode_any s w hs)
  cases ho : b64D s.data.toList with
  | none =>
    rw [ho] at HH
    unfold strRes ResPost at HH
    dsimp only at HH
    clear ho
    rw [Option.getD_none, bs_eta]
    go_enter Tryd.func83, Tryd.ntmps83
    go_wp2_with fail
    refine HH.out.mono ?_
    rintro e w1 ⟨rfl, hb⟩
    go_wp2_with fail
    go_ret
    exact ⟨rfl, hb⟩
  | some r =>
    rw [ho] at HH
    unfold strRes ResPost at HH
    dsimp only at HH
    clear ho
    rw [Option.getD_some]
    go_enter Tryd.func83, Tryd.ntmps83
    go_wp2_with fail
    refine HH.out.mono ?_
    rintro e w1 ⟨rfl, hb⟩
    go_wp2_with fail
    go_ret
    exact ⟨rfl, hb⟩
set_option maxRecDepth 100000 in
set_option maxHeartbeats 1600000 in
theorem pone_any (k : Int) (s : ByteArray) (w : World) (h1 : 1 ≤ k) (h2 : k ≤ 11) (hs : s.size ≤ 1000000) (hlib : LibOk w) (htab : TabOk w) :
    Calls Tryd.prog 55 #[.int .i64 k, .string s] w fun e w' => e = .returned (.string (bs (oneP k s.data.toList))) ∧ Below w.heap.size w w' := by
  have hm : s.size ≤ maxLen := by unfold maxLen; omega
  have hb : s.size ≤ 140737488351232 := by omega
  have H1 := Lib.hid (Lower_any s w hm)
  have H2 := Lib.hid (UrlDecode_any s w hb)
  have H3 := Lib.hid (tried_hex s w hb)
  have H4 := Lib.hid (tried_b64 s w hb)
  have H5 := Lib.hid (HtmlDecode_any s w hb)
  have H6 := Lib.hid (Path_any s w hlib (by omega))
  have H7 := Lib.hid (Squeeze_any s w hb)
  have H8 := Lib.hid (NoNull_any s w hb)
  have H9 := Lib.hid (Trim_any s w hm)
  have H10 := Lib.hid (itoa_any s.size w (by omega) htab)
  have H11 := Lib.hid (Cmd_any s w hb)
  have hsl : s.data.toList.length = s.size := by simp
  unfold oneP
  rw [hsl]
  clear hlib htab hs hm hb hsl
  obtain rfl | rfl | rfl | rfl | rfl | rfl | rfl | rfl | rfl | rfl | rfl : k = 1 ∨ k = 2 ∨ k = 3 ∨ k = 4 ∨ k = 5 ∨ k = 6 ∨ k = 7 ∨ k = 8 ∨ k = 9 ∨ k = 10 ∨ k = 11 := by omega
  all_goals
    simp only [Int.reduceEq, reduceIte]
    go_enter Tryd.func55, Tryd.ntmps55
    go_wp2_with fail
  · refine H1.out.mono ?_
    rintro e w1 ⟨rfl, hb⟩
    go_wp2_with fail
    go_ret
    exact ⟨rfl, hb⟩
  · refine H2.out.mono ?_
    rintro e w1 ⟨rfl, hb⟩
    go_wp2_with fail
    go_ret
    exact ⟨rfl, hb⟩
  · refine H3.out.mono ?_
    rintro e w1 ⟨rfl, hb⟩
    go_wp2_with fail
    go_ret
    exact ⟨rfl, hb⟩
  · refine H4.out.mono ?_
    rintro e w1 ⟨rfl, hb⟩
    go_wp2_with fail
    go_ret
    exact ⟨rfl, hb⟩
  · refine H5.out.mono ?_
    rintro e w1 ⟨rfl, hb⟩
    go_wp2_with fail
    go_ret
    exact ⟨rfl, hb⟩
  · refine H6.out.mono ?_
    rintro e w1 ⟨rfl, hb⟩
    go_wp2_with fail
    go_ret
    exact ⟨rfl, hb⟩
  · refine H7.out.mono ?_
    rintro e w1 ⟨rfl, hb⟩
    go_wp2_with fail
    go_ret
    exact ⟨rfl, hb⟩
  · refine H8.out.mono ?_
    rintro e w1 ⟨rfl, hb⟩
    go_wp2_with fail
    go_ret
    exact ⟨rfl, hb⟩
  · refine H9.out.mono ?_
    rintro e w1 ⟨rfl, hw⟩
    rw [hw]
    go_wp2_with fail
    go_ret
    exact ⟨rfl, Below.refl _ _⟩
  · refine H10.out.mono ?_
    rintro e w1 ⟨rfl, hb⟩
    go_wp2_with fail
    go_ret
    exact ⟨rfl, hb⟩
  · refine H11.out.mono ?_
    rintro e w1 ⟨rfl, hb⟩
    go_wp2_with fail
    go_ret
    exact ⟨rfl, hb⟩

/-- What a pipe makes of a text: what went wrong, or the text. -/
def runE (ks : List Int) (l : List UInt8) : Int := if checkP ks ≠ 0 then checkP ks else if 8192 < l.length then 2 else 0
def runT (ks : List Int) (l : List UInt8) : List UInt8 := if runE ks l ≠ 0 then [] else foldP ks l
def RunRel (ks : List Int) (s : List UInt8) (w : World) (t i : Value) (wr : World) : Prop :=
  ∃ (k : Nat) (x : ByteArray), k ≤ ks.length ∧ i = .int .i64 k ∧ t = .string x ∧ Hid (x.data.toList = foldP (ks.take k) s) ∧ x.size ≤ 8192 + 6 * k ∧ Below w.heap.size w wr
theorem check_ok {ks : List Int} (h : checkP ks = 0) : ks.length ≤ 8 ∧ ∀ k ∈ ks, 1 ≤ k ∧ k ≤ 11 := checkP_ok.1 h
set_option maxRecDepth 100000 in
set_option maxHeartbeats 1600000 in
theorem PRun_any (ks : List Int) (A : Option Addr) (c : Nat) (s : ByteArray) (w : World) (h : Sl w w.heap.size 1 A ks.length (ks.map (Value.int .i64))) (hl : ks.length ≤ 4194304) (hlib : LibOk w) (htab : TabOk w) :
    Calls Tryd.prog 30 #[.slice A ks.length c, .string s] w fun e w' => e = .returned (.tuple #[.string (bs (runT ks s.data.toList)), .int .i64 (runE ks s.data.toList)]) ∧ Below w.heap.size w w' := by
  have HC := Lib.hid (PCheckP_any ks A c w h hl)
  have hsl : s.data.toList.length = s.size := by simp
  by_cases hc : checkP ks = 0
  · have hok := check_ok hc
    by_cases hbig : 8192 < s.size
    · have HR : Hid (runE ks s.data.toList = 2 ∧ runT ks s.data.toList = []) := by
        have : runE ks s.data.toList = 2 := by unfold runE; rw [if_neg (by rw [hc]; simp), if_pos (by omega)]
        refine ⟨this, ?_⟩
        unfold runT; rw [if_pos (by rw [this]; decide)]
      have d0 : decide ((8192 : Int) < (s.size : Int)) = true := decide_eq_true (by omega)
      rw [hc] at HC
      rw [HR.out.1, HR.out.2]
      clear hc hok hbig h hlib htab hsl
      go_enter Tryd.func30, Tryd.ntmps30
      go_wp2_with fail
      refine HC.out.mono ?_
      rintro e w1 ⟨rfl, hb⟩
      go_wp2_with fail
      go_ret2
      exact ⟨rfl, hb⟩
    · have HR : Hid (runE ks s.data.toList = 0 ∧ runT ks s.data.toList = foldP ks s.data.toList) := by
        have : runE ks s.data.toList = 0 := by unfold runE; rw [if_neg (by rw [hc]; simp), if_neg (by omega)]
        refine ⟨this, ?_⟩
        unfold runT; rw [if_neg (by rw [this]; decide)]
      have d0 : decide ((8192 : Int) < (s.size : Int)) = false := decide_eq_false (by omega)
      have hs8 : s.size ≤ 8192 := by omega
      rw [hc] at HC
      rw [HR.out.1, HR.out.2]
      have HLB : Hid (∀ W, Below w.heap.size w W → LibOk W ∧ TabOk W) := fun W hb => ⟨hlib.below hb, htab.below hb⟩
      have HOK := Lib.hid hok
      have hk8 := hok.1
      clear hc hok hbig hlib htab hsl
      go_enter Tryd.func30, Tryd.ntmps30
      go_wp2_with fail
      refine HC.out.mono ?_
      rintro e w1 ⟨rfl, hb⟩
      go_wp2_with fail
      go_loopw [1, 19] (fun t i wr => RunRel ks s.data.toList w t i wr) (fun _ i _ => ks.length - (intOf i).toNat)
      case atStart => exact ⟨0, s, Nat.zero_le _, rfl, rfl, by unfold Hid foldP; rw [List.take_zero]; rfl, by omega, hb⟩
      case round =>
        obtain ⟨k, x, hk, rfl, rfl, HX, hxs, hb2⟩ := hrel
        clear hb
        by_cases hlt : k < ks.length
        · have d1 : decide ((k : Int) < (ks.length : Int)) = true := decide_eq_true (by omega)
          have i7 : IntKind.i64.wrap ((k : Int) + 1) = (k : Int) + 1 := IntWalk.i64_in _ (by omega)
          obtain ⟨b, off, rfl, hbB, hcc⟩ := (h.below hb2).src (by rw [List.length_map]; omega)
          have hcn := hcc k (by rw [List.length_map]; exact hlt)
          rw [List.getElem_map] at hcn
          have hkk := HOK.out.2 ks[k] (List.getElem_mem hlt)
          have HN : Hid (foldP (ks.take (k + 1)) s.data.toList = oneP ks[k] (foldP (ks.take k) s.data.toList)) := by
            unfold Hid foldP
            rw [List.take_succ_eq_append_getElem hlt, List.foldl_append]
            rfl
          generalize ks[k] = z at *
          obtain ⟨hl2, ht2⟩ := HLB.out wr hb2
          have HP := Lib.hid (pone_any z x wr hkk.1 hkk.2 (by omega) hl2 ht2)
          have hlen := oneP_len z x.data.toList (by simp; omega)
          rw [show x.data.toList.length = x.size by simp] at hlen
          have HLEN := Lib.hid hlen
          have HB2 := Lib.hid hb2
          clear hl2 ht2 hcc h hlen hb2 hkk
          go_wp2_with fail
          refine HP.out.mono ?_
          rintro e w2 ⟨rfl, hb3⟩
          have hb4 := HB2.out.trans (hb3.mono HB2.out.size)
          clear hb3
          go_wp2_with fail
          go_roundw
          case rel => exact ⟨k + 1, _, by omega, by go_num, rfl, by unfold Hid; rw [bs_toList, HN.out, HX.out], by rw [bs_size]; have := HLEN.out; omega, hb4⟩
          case measure => simp [intOf] <;> omega
        · obtain rfl : k = ks.length := by omega
          have d1 : decide ((ks.length : Int) < (ks.length : Int)) = false := by simp
          have hx : x = bs (foldP ks s.data.toList) := ext_bs (by rw [HX.out, List.take_length])
          clear h
          go_wp2_with fail
          go_ret2
          exact ⟨by rw [← hx]; rfl, hb2⟩
  · have HR : Hid (runE ks s.data.toList = checkP ks ∧ runT ks s.data.toList = []) := by
      have : runE ks s.data.toList = checkP ks := by unfold runE; rw [if_pos hc]
      refine ⟨this, ?_⟩
      unfold runT; rw [if_pos (by rw [this]; exact hc)]
    have q0 : (checkP ks != 0) = true := bne_iff_ne.2 hc
    have q1 : (checkP ks == 0) = false := beq_eq_false_iff_ne.2 hc
    rw [HR.out.1, HR.out.2]
    generalize checkP ks = C at *
    clear hc h hlib htab hsl
    go_enter Tryd.func30, Tryd.ntmps30
    go_wp2_with fail
    refine HC.out.mono ?_
    rintro e w1 ⟨rfl, hb⟩
    go_wp2_with fail
    go_ret2
    exact ⟨rfl, hb⟩
end Go.Proofs.YtdbipccopijgeaaDoor
