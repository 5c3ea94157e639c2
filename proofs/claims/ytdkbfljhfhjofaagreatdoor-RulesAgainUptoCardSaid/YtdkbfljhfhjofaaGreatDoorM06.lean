/- Part 6 of the proof: lemmas and walks that the last texts use. -/
import Derived.Test.YtdkbfljhfhjofaaGreatDoorM03
import Derived.Test.YtdkbfljhfhjofaaGreatDoorM05
namespace Go.Proofs.YtdkbfljhfhjofaaGreatDoor
open Go.RowKit
structure RuVar where
  k : Int
  m : Int
  n : ByteArray
structure RuAct where
  k : Int
  n : Int
structure RuOne where
  id : Int
  phase : Int
  vars : List RuVar
  pipe : List Int
  no : Bool
  op : Int
  arg : ByteArray
  acts : List RuAct
  chain : Bool
structure RuSet where
  most : Int
  status : Int
  list : List RuOne
def varWs : List (List UInt8) := [[], [109, 101, 116, 104, 111, 100], [116, 97, 114, 103, 101, 116], [112, 97, 116, 104], [113, 117, 101, 114, 121], [98, 111, 100, 121], [97, 114, 103, 115], [97, 114, 103, 110, 97, 109, 101, 115], [102, 105, 101, 108, 100, 115], [102, 105, 101, 108, 100, 110, 97, 109, 101, 115], [99, 111, 111, 107, 105, 101, 115], [99, 108, 105, 101, 110, 116], [115, 99, 111, 114, 101]]
def opWs : List (List UInt8) := [[], [114, 120], [112, 104, 114, 97, 115, 101], [105, 115], [104, 97, 115], [98, 101, 103, 105, 110, 115], [101, 110, 100, 115], [103, 116], [108, 116], [101, 113], [110, 101, 116], [114, 97, 110, 103, 101], [97, 110, 121]]
def actWs : List (List UInt8) := [[], [112, 97, 115, 115], [100, 101, 110, 121], [115, 99, 111, 114, 101], [115, 107, 105, 112], [97, 108, 108, 111, 119]]
def ruleW : List UInt8 := [114, 117, 108, 101]
def chainW : List UInt8 := [99, 104, 97, 105, 110]
def scoreW : List UInt8 := [115, 99, 111, 114, 101]
def wordAt (ws : List (List UInt8)) (k : Int) : List UInt8 := ws.getD k.toNat []
def placeL (ws : List (List UInt8)) (n : Nat) (w : List UInt8) : Int := match (List.range n).find? (fun i => ws.getD (i + 1) [] == w) with
  | some i => (i : Int) + 1
  | none => 0
def okWs (ws : List (List UInt8)) (n : Nat) : Bool := (List.range n).all fun i => !(ws.getD (i + 1) []).isEmpty && (ws.getD (i + 1) []).all (fun c => decide (97 ≤ c.toNat) && decide (c.toNat ≤ 122)) && (List.range n).all fun j => !(ws.getD (i + 1) [] == ws.getD (j + 1) []) || i == j
theorem varWs_ok : okWs varWs 12 = true := by decide +kernel
theorem opWs_ok : okWs opWs 12 = true := by decide +kernel
theorem actWs_ok : okWs actWs 5 = true := by decide +kernel
theorem wordAt_ok {ws : List (List UInt8)} {n : Nat} (h : okWs ws n = true) {k : Int} (h1 : 1 ≤ k) (h2 : k ≤ n) : wordAt ws k ≠ [] ∧ ∀ c ∈ wordAt ws k, 97 ≤ c.toNat ∧ c.toNat ≤ 122 := by
  have := List.all_eq_true.1 h (k.toNat - 1) (List.mem_range.2 (by omega))
  rw [show k.toNat - 1 + 1 = k.toNat by omega] at this
  simp only [Bool.and_eq_true] at this
  obtain ⟨⟨a, b⟩, _⟩ := this
  refine ⟨fun e => ?_, fun c hc => ?_⟩
  · unfold wordAt at e; rw [e] at a; exact absurd a (by decide)
  · have := List.all_eq_true.1 b c hc
    simpa using this
theorem wordAt_not {ws : List (List UInt8)} {n : Nat} (h : okWs ws n = true) {k : Int} (h1 : 1 ≤ k) (h2 : k ≤ n) (c : UInt8) (hc : c.toNat < 97) : c ∉ wordAt ws k := fun hm => by
  have := (wordAt_ok h h1 h2).2 c hm; omega
theorem place_word {ws : List (List UInt8)} {n : Nat} (h : okWs ws n = true) {k : Int} (h1 : 1 ≤ k) (h2 : k ≤ n) : placeL ws n (wordAt ws k) = k := by
  have key : (List.range n).find? (fun i => ws.getD (i + 1) [] == wordAt ws k) = some (k.toNat - 1) := by
    cases hf : (List.range n).find? (fun i => ws.getD (i + 1) [] == wordAt ws k) with
    | none =>
      have := List.find?_eq_none.1 hf (k.toNat - 1) (List.mem_range.2 (by omega))
      rw [show k.toNat - 1 + 1 = k.toNat by omega] at this
      exact absurd (beq_iff_eq.2 rfl) this
    | some i =>
      have hi := List.mem_range.1 (List.mem_of_find?_eq_some hf)
      have he := List.find?_some hf
      have := List.all_eq_true.1 h i (List.mem_range.2 hi)
      simp only [Bool.and_eq_true] at this
      have := List.all_eq_true.1 this.2 (k.toNat - 1) (List.mem_range.2 (by omega))
      rw [show k.toNat - 1 + 1 = k.toNat by omega] at this
      unfold wordAt at he
      rw [he] at this
      have e : i = k.toNat - 1 := by simpa using this
      rw [e]
  unfold placeL
  rw [key]
  show ((k.toNat - 1 : Nat) : Int) + 1 = k
  omega
def nameB (b : UInt8) : Bool := (decide (97 ≤ b.toNat) && decide (b.toNat ≤ 122)) || (decide (48 ≤ b.toNat) && decide (b.toNat ≤ 57)) || b == 45 || b == 95
def namedL (l : List UInt8) : Bool := l.all nameB && decide (1 ≤ l.length) && decide (l.length ≤ 20)
def ofK (k : Int) : Bool := k == 6 || k == 8 || k == 10
def varC (v : RuVar) : Int := if v.k < 1 ∨ 12 < v.k ∨ v.m < 0 ∨ 2 < v.m ∨ (v.n.data.toList ≠ [] ∧ (ofK v.k && namedL v.n.data.toList) = false) then 1 else 0
def loA (k : Int) : Int := if k = 2 then 400 else if k = 3 ∨ k = 4 then 1 else 0
def hiA (k : Int) : Int := if k = 2 then 599 else if k = 3 then 1000 else if k = 4 then 9 else 0
def actC (a : RuAct) : Int := if a.k < 1 ∨ 5 < a.k ∨ a.n < loA a.k ∨ hiA a.k < a.n then 1 else 0
def firstC {α : Type} (f : α → Int) : List α → Int
  | [] => 0
  | x :: r => if f x ≠ 0 then f x else firstC f r
theorem firstC_ok {α : Type} {f : α → Int} : ∀ {l : List α}, firstC f l = 0 → ∀ x ∈ l, f x = 0
  | [], _, x, hx => by cases hx
  | y :: r, h, x, hx => by
    unfold firstC at h
    split at h
    · contradiction
    · rename_i h0
      rcases List.mem_cons.1 hx with rfl | hx
      · simpa using h0
      · exact firstC_ok h x hx
def oneC (argC : Int → ByteArray → Int) (x : RuOne) : Int :=
  if 8 < x.vars.length ∨ 6 < x.acts.length then 2 else if x.vars.length = 0 ∨ x.acts.length = 0 then 1 else if firstC varC x.vars ≠ 0 then firstC varC x.vars else
  if checkP x.pipe ≠ 0 then checkP x.pipe else if x.op < 1 ∨ 12 < x.op then 1 else if argC x.op x.arg ≠ 0 then argC x.op x.arg else firstC actC x.acts
def goC (argC : Int → ByteArray → Int) : List RuOne → List RuOne → Int
  | _, [] => 0
  | done, x :: r => if x.id < 1 ∨ 9999 < x.id ∨ (x.phase ≠ 1 ∧ x.phase ≠ 2) then 1 else if done.any (fun y => y.id == x.id) = true then 9 else if oneC argC x ≠ 0 then oneC argC x else goC argC (done ++ [x]) r
def chainC : List RuOne → Int
  | [] => 0
  | [x] => if x.chain = true then 1 else 0
  | x :: y :: r => if x.chain = true ∧ y.phase ≠ x.phase then 1 else chainC (y :: r)
def checkR (argC : Int → ByteArray → Int) (r : RuSet) : Int :=
  if r.most < 1 ∨ 1000000 < r.most ∨ r.status < 400 ∨ 599 < r.status then 1 else if 40 < r.list.length then 2 else if goC argC [] r.list ≠ 0 then goC argC [] r.list else chainC r.list
structure OneOk (x : RuOne) : Prop where
  id1 : 1 ≤ x.id
  id2 : x.id ≤ 9999
  ph1 : 1 ≤ x.phase
  ph2 : x.phase ≤ 2
  vars : ∀ v ∈ x.vars, varC v = 0
  some : x.vars ≠ []
  pipe : checkP x.pipe = 0
  op1 : 1 ≤ x.op
  op2 : x.op ≤ 12
  acts : ∀ a ∈ x.acts, actC a = 0
  one : x.acts ≠ []
theorem oneC_ok {argC : Int → ByteArray → Int} {x : RuOne} (h : oneC argC x = 0) (h1 : ¬ (x.id < 1 ∨ 9999 < x.id ∨ (x.phase ≠ 1 ∧ x.phase ≠ 2))) : OneOk x := by
  unfold oneC at h
  split at h
  · cases h
  split at h
  · cases h
  rename_i hne
  split at h
  · contradiction
  rename_i hv
  split at h
  · contradiction
  rename_i hp
  split at h
  · cases h
  rename_i ho
  split at h
  · contradiction
  exact ⟨by omega, by omega, by omega, by omega, firstC_ok (by simpa using hv), fun e => hne (.inl (by rw [e]; rfl)), by simpa using hp, by omega, by omega, firstC_ok h, fun e => hne (.inr (by rw [e]; rfl))⟩
theorem goC_ok {argC : Int → ByteArray → Int} : ∀ (l done : List RuOne), goC argC done l = 0 → ∀ x ∈ l, OneOk x
  | [], _, _, x, hx => by cases hx
  | y :: r, done, h, x, hx => by
    unfold goC at h
    split at h
    · cases h
    rename_i h1
    split at h
    · cases h
    split at h
    · contradiction
    rename_i h2
    rcases List.mem_cons.1 hx with rfl | hx
    · exact oneC_ok (by simpa using h2) h1
    · exact goC_ok r _ h x hx
theorem checkR_ok {argC : Int → ByteArray → Int} {r : RuSet} (h : checkR argC r = 0) : (1 ≤ r.most ∧ r.most ≤ 1000000 ∧ 400 ≤ r.status ∧ r.status ≤ 599) ∧ ∀ x ∈ r.list, OneOk x := by
  unfold checkR at h
  split at h
  · cases h
  rename_i h1
  split at h
  · cases h
  split at h
  · contradiction
  rename_i h2
  exact ⟨by omega, goC_ok _ _ (by simpa using h2)⟩
def modeL (m : Int) : List UInt8 := if m = 1 then [35] else if m = 2 then [33] else []
def varL (v : RuVar) : List UInt8 := modeL v.m ++ wordAt varWs v.k ++ (if v.n.data.toList = [] then [] else 58 :: v.n.data.toList)
def actL (a : RuAct) : List UInt8 := wordAt actWs a.k ++ (if 0 < a.n then 58 :: decS a.n.toNat else [])
def wordsR (x : RuOne) : List (List UInt8) := [if x.chain then chainW else ruleW, decS x.id.toNat, decS x.phase.toNat, Lib.join (x.vars.map varL) [44], printP x.pipe, (if x.no then [33] else []) ++ wordAt opWs x.op, quoteL x.arg.data.toList, Lib.join (x.acts.map actL) [44]]
def lineR (x : RuOne) : List UInt8 := Lib.join (wordsR x) [32]
def headR (r : RuSet) : List UInt8 := Lib.join [scoreW, decS r.most.toNat, decS r.status.toNat] [32]
def printR (r : RuSet) : List UInt8 := headR r ++ 10 :: r.list.flatMap (fun x => lineR x ++ [10])
def modeOf : List UInt8 → Int × List UInt8
  | 35 :: t => (1, t)
  | 33 :: t => (2, t)
  | s => (0, s)
def varR (s : List UInt8) : Option RuVar :=
  let c := Lib.cut (modeOf s).2 [58]
  if 0 < placeL varWs 12 c.1 ∧ (c.2.2 = true ↔ c.2.1 ≠ []) then some ⟨placeL varWs 12 c.1, (modeOf s).1, bs c.2.1⟩ else none
def actN (s : List UInt8) : Int := if (Lib.cut s [58]).2.2 = true then numB 999999999 (Lib.cut s [58]).2.1 else 0
def actR (s : List UInt8) : Option RuAct :=
  if 0 < placeL actWs 5 (Lib.cut s [58]).1 ∧ ((Lib.cut s [58]).2.2 = true ↔ 0 < actN s) then some ⟨placeL actWs 5 (Lib.cut s [58]).1, actN s⟩ else none
def allO {α β : Type} (f : α → Option β) : List α → Option (List β)
  | [] => some []
  | x :: r => match f x, allO f r with
    | some y, some l => some (y :: l)
    | _, _ => none
def opR : List UInt8 → Bool × Int
  | 33 :: t => (true, placeL opWs 12 t)
  | w => (false, placeL opWs 12 w)
structure RuleIs (ws : List (List UInt8)) (x : RuOne) : Prop where
  len : ws.length = 8
  word : ws.getD 0 [] = (if x.chain then chainW else ruleW)
  id : numB 999999999 (ws.getD 1 []) = x.id
  id0 : 0 ≤ x.id
  phase : numB 999999999 (ws.getD 2 []) = x.phase
  phase0 : 0 ≤ x.phase
  vars : allO varR (splL 44 (ws.getD 3 [])) = some x.vars
  pipe : ParseIs (ws.getD 4 []) x.pipe
  op : opR (ws.getD 5 []) = (x.no, x.op)
  op0 : x.op ≠ 0
  arg : unquoteL (ws.getD 6 []) = some x.arg.data.toList
  acts : allO actR (splL 44 (ws.getD 7 [])) = some x.acts
def RulesIs : List (List UInt8) → List RuOne → Prop
  | [], [] => True
  | l :: ls, x :: xs => RuleIs (splL 32 l) x ∧ RulesIs ls xs
  | _, _ => False
structure HeadIs (ws : List (List UInt8)) (r : RuSet) : Prop where
  len : ws.length = 3
  word : ws.getD 0 [] = scoreW
  most : numB 999999999 (ws.getD 1 []) = r.most
  most0 : 0 ≤ r.most
  status : numB 999999999 (ws.getD 2 []) = r.status
  status0 : 0 ≤ r.status
/-- A text is read as such rules. -/
def ReadsSet (argC : Int → ByteArray → Int) (s : List UInt8) (r : RuSet) : Prop :=
  s.length ≤ 8192 ∧ (∃ h ls, splL 10 s = h :: (ls ++ [[]]) ∧ HeadIs (splL 32 h) r ∧ RulesIs ls r.list) ∧ checkR argC r = 0
theorem parseIs_one {s : List UInt8} {a b : List Int} (h : ParseIs s a) (g : ParseIs s b) : a = b := by
  rcases h with ⟨h1, h2⟩ | ⟨h1, h2, _, h4⟩ <;> rcases g with ⟨g1, g2⟩ | ⟨g1, g2, _, g4⟩
  · rw [h2, g2]
  · exact absurd h1 g1
  · exact absurd g1 h1
  · exact words_same h4 g4 (h2.trans g2.symm)
theorem chain_word {a b : Bool} (h : (if a then chainW else ruleW) = (if b then chainW else ruleW)) : a = b := by
  revert h; cases a <;> cases b <;> decide
theorem ruleIs_one {ws : List (List UInt8)} {x y : RuOne} (h : RuleIs ws x) (g : RuleIs ws y) : x = y := by
  have e1 := h.id.symm.trans g.id
  have e2 := h.phase.symm.trans g.phase
  have e3 := Option.some.inj (h.vars.symm.trans g.vars)
  have e4 := parseIs_one h.pipe g.pipe
  have e5 := Prod.mk.inj (h.op.symm.trans g.op)
  have e6 : x.arg = y.arg := ByteArray.ext (Array.toList_inj.1 (Option.some.inj (h.arg.symm.trans g.arg)))
  have e7 := Option.some.inj (h.acts.symm.trans g.acts)
  have e8 := chain_word (h.word.symm.trans g.word)
  cases x; cases y
  simp only at e1 e2 e3 e4 e5 e6 e7 e8
  obtain ⟨e5, e5'⟩ := e5
  subst e1 e2 e3 e4 e5 e5' e6 e7 e8
  rfl
theorem rulesIs_one : ∀ {ls : List (List UInt8)} {a b : List RuOne}, RulesIs ls a → RulesIs ls b → a = b
  | [], [], [], _, _ => rfl
  | _ :: _, _ :: _, _ :: _, h, g => by rw [ruleIs_one h.1 g.1, rulesIs_one h.2 g.2]
  | [], [], _ :: _, _, g => g.elim
  | [], _ :: _, _, h, _ => h.elim
  | _ :: _, [], _, h, _ => h.elim
  | _ :: _, _ :: _, [], _, g => g.elim
theorem reads_one {argC : Int → ByteArray → Int} {s : List UInt8} {a b : RuSet} (h : ReadsSet argC s a) (g : ReadsSet argC s b) : a = b := by
  obtain ⟨_, ⟨h1, l1, h2, h3, h4⟩, _⟩ := h
  obtain ⟨_, ⟨g1, k1, g2, g3, g4⟩, _⟩ := g
  obtain ⟨rfl, e⟩ := List.cons.inj (h2.symm.trans g2)
  have e := List.append_cancel_right e
  subst e
  have e1 := h3.most.symm.trans g3.most
  have e2 := h3.status.symm.trans g3.status
  have e3 := rulesIs_one h4 g4
  cases a; cases b
  simp only at e1 e2 e3
  subst e1 e2 e3
  rfl
theorem cut_none (c : UInt8) (a : List UInt8) (h : c ∉ a) : Lib.cut a [c] = (a, [], false) := by
  obtain ⟨h1, h2⟩ := cut_back c a
  cases hf : (Lib.cut a [c]).2.2 with
  | true =>
    have := h1 hf
    exact absurd (by rw [← this]; simp) h
  | false =>
    obtain ⟨e1, e2⟩ := h2 hf
    rw [← hf]
    exact Prod.ext e1 (Prod.ext e2 rfl)
theorem bs_back (n : ByteArray) : bs n.data.toList = n := ByteArray.ext (Array.toList_inj.1 (by simp [bs]))
theorem varC_ok {v : RuVar} (h : varC v = 0) : (1 ≤ v.k ∧ v.k ≤ 12) ∧ (v.m = 0 ∨ v.m = 1 ∨ v.m = 2) ∧ (v.n.data.toList ≠ [] → namedL v.n.data.toList = true) := by
  unfold varC at h
  split at h
  · cases h
  rename_i h1
  refine ⟨by omega, by omega, fun hn => ?_⟩
  cases hb : namedL v.n.data.toList with
  | true => rfl
  | false => exact absurd (.inr (.inr (.inr (.inr ⟨hn, by rw [hb, Bool.and_false]⟩)))) h1
theorem modeOf_word {w r : List UInt8} (hw : w ≠ []) (h : ∀ c ∈ w, 97 ≤ c.toNat) (m : Int) (hm : m = 0 ∨ m = 1 ∨ m = 2) : modeOf (modeL m ++ (w ++ r)) = (m, w ++ r) := by
  rcases hm with rfl | rfl | rfl
  · cases w with
    | nil => exact absurd rfl hw
    | cons c w =>
      have hc := h c (by simp)
      show modeOf (c :: (w ++ r)) = _
      unfold modeOf
      split
      · rename_i e
        injection e with e _
        rw [e] at hc; exact absurd hc (by decide)
      · rename_i e
        injection e with e _
        rw [e] at hc; exact absurd hc (by decide)
      · rfl
  · rfl
  · rfl
theorem var_back {v : RuVar} (h : varC v = 0) : varR (varL v) = some v := by
  obtain ⟨hk, hm, hn⟩ := varC_ok h
  obtain ⟨hw, hl⟩ := wordAt_ok varWs_ok hk.1 (by omega : v.k ≤ (12 : Nat))
  have hp := place_word varWs_ok hk.1 (by omega : v.k ≤ (12 : Nat))
  have h58 := wordAt_not varWs_ok hk.1 (by omega : v.k ≤ (12 : Nat)) 58 (by decide)
  have hmo := fun r => modeOf_word (r := r) hw (fun c hc => (hl c hc).1) v.m hm
  unfold varR varL
  rw [List.append_assoc, hmo]
  dsimp only
  by_cases h0 : v.n.data.toList = []
  · rw [if_pos h0, List.append_nil, cut_none 58 _ h58]
    dsimp only
    rw [hp, if_pos ⟨by omega, by simp⟩]
    have e : v.n = bs [] := by rw [← bs_back v.n, h0]
    rw [← e]
  · rw [if_neg h0, cut_first 58 _ _ h58]
    dsimp only
    rw [hp, if_pos ⟨by omega, by simp [h0]⟩, bs_back]
theorem actC_ok {a : RuAct} (h : actC a = 0) : (1 ≤ a.k ∧ a.k ≤ 5) ∧ 0 ≤ a.n ∧ a.n ≤ 1000 := by
  unfold actC at h
  split at h
  · cases h
  rename_i h1
  have hlo : 0 ≤ loA a.k := by unfold loA; (repeat' split) <;> omega
  have hhi : hiA a.k ≤ 1000 := by unfold hiA; (repeat' split) <;> omega
  omega
theorem act_back {a : RuAct} (h : actC a = 0) : actR (actL a) = some a := by
  obtain ⟨hk, hn0, hn1⟩ := actC_ok h
  have hp := place_word actWs_ok hk.1 (by omega : a.k ≤ (5 : Nat))
  have h58 := wordAt_not actWs_ok hk.1 (by omega : a.k ≤ (5 : Nat)) 58 (by decide)
  unfold actR actN actL
  by_cases h0 : 0 < a.n
  · have hd : numB 999999999 (decS a.n.toNat) = a.n := by
      rw [numB_dec _ _ (by omega) (by omega)]; omega
    rw [if_pos h0, cut_first 58 _ _ h58]
    dsimp only
    rw [if_pos rfl, hp, hd, if_pos ⟨by omega, by simp [h0]⟩]
  · rw [if_neg h0, List.append_nil, cut_none 58 _ h58]
    dsimp only
    rw [if_neg (show ¬ (false = true) by decide), hp, if_pos ⟨by omega, by simp⟩]
    have e : a.n = 0 := by omega
    rw [← e]
theorem allO_map {α β : Type} (f : α → Option β) (g : β → α) : ∀ l : List β, (∀ y ∈ l, f (g y) = some y) → allO f (l.map g) = some l
  | [], _ => rfl
  | y :: r, h => by
    rw [List.map_cons, allO, h y (by simp), allO_map f g r fun z hz => h z (by simp [hz])]
def fineC (c : UInt8) : Prop := c ≠ 32 ∧ c ≠ 10
theorem fine_low {c : UInt8} (h : 97 ≤ c.toNat) : fineC c ∧ c ≠ 44 := by
  refine ⟨⟨?_, ?_⟩, ?_⟩ <;> (rintro rfl; revert h; decide)
theorem fine_dec {n : Nat} {c : UInt8} (h : c ∈ decS n) : fineC c ∧ c ≠ 44 := by
  have := dec_byte n c h
  refine ⟨⟨?_, ?_⟩, ?_⟩ <;> (rintro rfl; revert this; decide)
theorem fine_name {c : UInt8} (h : nameB c = true) : fineC c ∧ c ≠ 44 := by
  refine ⟨⟨?_, ?_⟩, ?_⟩ <;> (rintro rfl; revert h; decide)
theorem var_fine {v : RuVar} (h : varC v = 0) : ∀ c ∈ varL v, fineC c ∧ c ≠ 44 := fun c hc => by
  obtain ⟨hk, hm, hn⟩ := varC_ok h
  unfold varL at hc
  rcases List.mem_append.1 hc with hc | hc
  · rcases List.mem_append.1 hc with hc | hc
    · rcases hm with e | e | e <;> rw [e] at hc
      · cases hc
      · have : c = 35 := by simpa [modeL] using hc
        subst this; exact ⟨⟨by decide, by decide⟩, by decide⟩
      · have : c = 33 := by simpa [modeL] using hc
        subst this; exact ⟨⟨by decide, by decide⟩, by decide⟩
    · exact fine_low ((wordAt_ok varWs_ok hk.1 (by omega : v.k ≤ (12 : Nat))).2 c hc).1
  · split at hc
    · cases hc
    · rename_i h0
      rcases List.mem_cons.1 hc with rfl | hc
      · exact ⟨⟨by decide, by decide⟩, by decide⟩
      · have := hn h0
        unfold namedL at this
        simp only [Bool.and_eq_true] at this
        exact fine_name (List.all_eq_true.1 this.1.1 c hc)
theorem act_fine {a : RuAct} (h : actC a = 0) : ∀ c ∈ actL a, fineC c ∧ c ≠ 44 := fun c hc => by
  obtain ⟨hk, _, _⟩ := actC_ok h
  unfold actL at hc
  rcases List.mem_append.1 hc with hc | hc
  · exact fine_low ((wordAt_ok actWs_ok hk.1 (by omega : a.k ≤ (5 : Nat))).2 c hc).1
  · split at hc
    · rcases List.mem_cons.1 hc with rfl | hc
      · exact ⟨⟨by decide, by decide⟩, by decide⟩
      · exact fine_dec hc
    · cases hc
theorem join_fine (c : UInt8) (hc : fineC c) : ∀ ws : List (List UInt8), (∀ w ∈ ws, ∀ b ∈ w, fineC b) → ∀ b ∈ Lib.join ws [c], fineC b
  | [], _, b, hb => by cases hb
  | [w], h, b, hb => by rw [Lib.join_one] at hb; exact h w (by simp) b hb
  | w :: x :: r, h, b, hb => by
    have ih := join_fine c hc (x :: r) fun y hy => h y (by simp [hy])
    have e : Lib.join (w :: x :: r) [c] = w ++ c :: Lib.join (x :: r) [c] := by
      rw [Lib.join_cons, Lib.join_cons]
      simp [Lib.joinTail]
    rw [e] at hb
    rcases List.mem_append.1 hb with hb | hb
    · exact h w (by simp) b hb
    · rcases List.mem_cons.1 hb with rfl | hb
      · exact hc
      · exact ih b hb
theorem pipe_fine {l : List Int} (h : checkP l = 0) : ∀ c ∈ printP l, fineC c := by
  unfold printP
  split
  · intro c hc
    have : c = 45 := by simpa using hc
    subst this; exact ⟨by decide, by decide⟩
  · refine join_fine 44 ⟨by decide, by decide⟩ _ fun w hw => ?_
    obtain ⟨k, hk, rfl⟩ := List.mem_map.1 hw
    obtain ⟨h1, h2⟩ := (checkP_ok.1 h).2 k hk
    intro c hc
    have key : ∀ n : Fin 12, (wordsL.getD n.val []).all (fun c => c != 32 && c != 10) = true := by decide
    have := List.all_eq_true.1 (key ⟨k.toNat, by omega⟩) c hc
    unfold fineC
    simpa using this
theorem quote_fine (s : List UInt8) : ∀ c ∈ quoteL s, fineC c := by
  intro c hc
  have key : ∀ b : UInt8, (quoteB b).all (fun c => c != 32 && c != 10) = true := fun b => all_bytes (p := fun b => (quoteB b).all (fun c => c != 32 && c != 10)) (by decide +kernel) b
  unfold quoteL at hc
  split at hc
  · have : c = 45 := by simpa using hc
    subst this; exact ⟨by decide, by decide⟩
  · split at hc
    · have : c = 92 ∨ c = 45 := by simpa using hc
      rcases this with rfl | rfl <;> exact ⟨by decide, by decide⟩
    · obtain ⟨b, _, hb⟩ := List.mem_flatMap.1 hc
      have := List.all_eq_true.1 (key b) c hb
      unfold fineC
      simpa using this
theorem words_fine {x : RuOne} (h : OneOk x) : ∀ w ∈ wordsR x, ∀ c ∈ w, fineC c := by
  intro w hw c hc
  unfold wordsR at hw
  simp only [List.mem_cons, List.not_mem_nil, or_false] at hw
  rcases hw with rfl | rfl | rfl | rfl | rfl | rfl | rfl | rfl
  · have key : ∀ b : Bool, (if b then chainW else ruleW).all (fun c => c != 32 && c != 10) = true := by decide
    have := List.all_eq_true.1 (key x.chain) c hc
    unfold fineC
    simpa using this
  · exact (fine_dec hc).1
  · exact (fine_dec hc).1
  · refine join_fine 44 ⟨by decide, by decide⟩ _ (fun w hw => ?_) c hc
    obtain ⟨v, hv, rfl⟩ := List.mem_map.1 hw
    exact fun c hc => (var_fine (h.vars v hv) c hc).1
  · exact pipe_fine h.pipe c hc
  · rcases List.mem_append.1 hc with hc | hc
    · have : c = 33 := by
        revert hc
        cases x.no <;> simp
      subst this; exact ⟨by decide, by decide⟩
    · exact (fine_low ((wordAt_ok opWs_ok h.op1 (by have := h.op2; omega : x.op ≤ (12 : Nat))).2 c hc).1).1
  · exact quote_fine _ c hc
  · refine join_fine 44 ⟨by decide, by decide⟩ _ (fun w hw => ?_) c hc
    obtain ⟨a, ha, rfl⟩ := List.mem_map.1 hw
    exact fun c hc => (act_fine (h.acts a ha) c hc).1
theorem opR_word {w : List UInt8} (h : ∀ c ∈ w, 97 ≤ c.toNat) : opR w = (false, placeL opWs 12 w) := by
  unfold opR
  split
  · have := h 33 (by simp)
    exact absurd this (by decide)
  · rfl
theorem op_back {x : RuOne} (h : OneOk x) : opR ((if x.no then [33] else []) ++ wordAt opWs x.op) = (x.no, x.op) := by
  have h2 : x.op ≤ (12 : Nat) := by have := h.op2; omega
  have hp := place_word opWs_ok h.op1 h2
  obtain ⟨_, hl⟩ := wordAt_ok opWs_ok h.op1 h2
  cases hno : x.no with
  | true =>
    show (true, placeL opWs 12 (wordAt opWs x.op)) = _
    rw [hp]
  | false =>
    show opR (wordAt opWs x.op) = _
    rw [opR_word fun c hc => (hl c hc).1, hp]
theorem rule_back {x : RuOne} (h : OneOk x) : RuleIs (splL 32 (lineR x)) x := by
  have hs : splL 32 (lineR x) = wordsR x := splL_join 32 _ (by unfold wordsR; simp) fun w hw hm => (words_fine h w hw 32 hm).1 rfl
  have hid := h.id1; have hid2 := h.id2; have hp1 := h.ph1; have hp2 := h.ph2
  rw [hs]
  refine ⟨rfl, rfl, ?_, by omega, ?_, by omega, ?_, (print_parse h.pipe).2 rfl, op_back h, by have := h.op1; omega, unquote_quote _, ?_⟩
  · show numB 999999999 (decS x.id.toNat) = _
    rw [numB_dec _ _ (by omega) (by omega)]; omega
  · show numB 999999999 (decS x.phase.toNat) = _
    rw [numB_dec _ _ (by omega) (by omega)]; omega
  · show allO varR (splL 44 (Lib.join (x.vars.map varL) [44])) = _
    rw [splL_join 44 _ (by simp [h.some]) fun w hw hm => ?_]
    · exact allO_map _ _ _ fun v hv => var_back (h.vars v hv)
    · obtain ⟨v, hv, rfl⟩ := List.mem_map.1 hw
      exact (var_fine (h.vars v hv) 44 hm).2 rfl
  · show allO actR (splL 44 (Lib.join (x.acts.map actL) [44])) = _
    rw [splL_join 44 _ (by simp [h.one]) fun w hw hm => ?_]
    · exact allO_map _ _ _ fun v hv => act_back (h.acts v hv)
    · obtain ⟨v, hv, rfl⟩ := List.mem_map.1 hw
      exact (act_fine (h.acts v hv) 44 hm).2 rfl
theorem line_fine {x : RuOne} (h : OneOk x) : (10 : UInt8) ∉ lineR x := fun hm => by
  have key : ∀ ws : List (List UInt8), (∀ w ∈ ws, (10 : UInt8) ∉ w) → (10 : UInt8) ∉ Lib.join ws [32] := fun ws => by
    induction ws with
    | nil => intro _ h; cases h
    | cons w r ih =>
      intro h
      cases r with
      | nil => rw [Lib.join_one]; exact h w (by simp)
      | cons x r =>
        have e : Lib.join (w :: x :: r) [32] = w ++ 32 :: Lib.join (x :: r) [32] := by
          rw [Lib.join_cons, Lib.join_cons]
          simp [Lib.joinTail]
        rw [e]
        intro hm
        rcases List.mem_append.1 hm with hm | hm
        · exact h w (by simp) hm
        · rcases List.mem_cons.1 hm with hm | hm
          · exact absurd hm (by decide)
          · exact ih (fun y hy => h y (by simp [hy])) hm
  exact key _ (fun w hw hm => (words_fine h w hw 10 hm).2 rfl) hm
theorem lines_back : ∀ l : List RuOne, (∀ x ∈ l, OneOk x) → splL 10 (l.flatMap (fun x => lineR x ++ [10])) = l.map lineR ++ [[]] ∧ RulesIs (l.map lineR) l
  | [], _ => ⟨rfl, trivial⟩
  | x :: r, h => by
    obtain ⟨h1, h2⟩ := lines_back r fun y hy => h y (by simp [hy])
    have hx := h x (by simp)
    refine ⟨?_, rule_back hx, h2⟩
    rw [List.flatMap_cons, List.append_assoc, List.singleton_append, splL_append, splL_whole 10 _ (line_fine hx), h1]
    rfl
theorem head_back {r : RuSet} (h1 : 1 ≤ r.most ∧ r.most ≤ 1000000 ∧ 400 ≤ r.status ∧ r.status ≤ 599) : HeadIs (splL 32 (headR r)) r ∧ (10 : UInt8) ∉ headR r := by
  have h32 : (32 : UInt8) ∉ decS r.most.toNat := dec_not _ 32 (by decide)
  have h32' : (32 : UInt8) ∉ decS r.status.toNat := dec_not _ 32 (by decide)
  have h10 : (10 : UInt8) ∉ decS r.most.toNat := dec_not _ 10 (by decide)
  have h10' : (10 : UInt8) ∉ decS r.status.toNat := dec_not _ 10 (by decide)
  have hs : splL 32 (headR r) = [scoreW, decS r.most.toNat, decS r.status.toNat] := splL_join 32 _ (by simp) fun w hw => by
    simp only [List.mem_cons, List.not_mem_nil, or_false] at hw
    rcases hw with rfl | rfl | rfl
    · decide
    · exact h32
    · exact h32'
  refine ⟨?_, ?_⟩
  · rw [hs]
    refine ⟨rfl, rfl, ?_, by omega, ?_, by omega⟩
    · show numB 999999999 (decS r.most.toNat) = _
      rw [numB_dec _ _ (by omega) (by omega)]; omega
    · show numB 999999999 (decS r.status.toNat) = _
      rw [numB_dec _ _ (by omega) (by omega)]; omega
  · have e : headR r = scoreW ++ 32 :: (decS r.most.toNat ++ 32 :: decS r.status.toNat) := by
      unfold headR
      rw [Lib.join_cons]
      simp [Lib.joinTail]
    rw [e]
    intro hm
    rcases List.mem_append.1 hm with hm | hm
    · exact absurd hm (by decide)
    · rcases List.mem_cons.1 hm with hm | hm
      · exact absurd hm (by decide)
      · rcases List.mem_append.1 hm with hm | hm
        · exact h10 hm
        · rcases List.mem_cons.1 hm with hm | hm
          · exact absurd hm (by decide)
          · exact h10' hm
/-- What is printed is read as it was. -/
theorem reads_back {argC : Int → ByteArray → Int} {r : RuSet} (h : checkR argC r = 0) (hl : (printR r).length ≤ 8192) : ReadsSet argC (printR r) r := by
  obtain ⟨h1, h2⟩ := checkR_ok h
  obtain ⟨h3, h4⟩ := head_back h1
  obtain ⟨h5, h6⟩ := lines_back r.list h2
  refine ⟨hl, ⟨headR r, r.list.map lineR, ?_, h3, h6⟩, h⟩
  unfold printR
  rw [splL_append, splL_whole 10 _ h4, h5]
  rfl
theorem reads_iff {argC : Int → ByteArray → Int} {r x : RuSet} (h : checkR argC r = 0) (hl : (printR r).length ≤ 8192) : ReadsSet argC (printR r) x ↔ x = r :=
  ⟨fun g => reads_one g (reads_back h hl), fun e => by rw [e]; exact reads_back h hl⟩
end Go.Proofs.YtdkbfljhfhjofaaGreatDoor
