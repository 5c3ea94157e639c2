/- Threads through instructions: they hold the least beginning; in plain lists. -/
import Derived.Test.YteinbjopclblaaaThoL
namespace Go.Proofs.Yteinbjopclblaaa
open Go.RowKit

section
variable {P : List Ins} {s : List UInt8}
inductive EpsS (P : List Ins) (s : List UInt8) (i n : Nat) : Nat → Prop
  | refl : EpsS P s i n n
  | step (m k : Nat) : EpsS P s i n m → Eps P s i m k → EpsS P s i n k
theorem EpsS.front {i n m k : Nat} (h : Eps P s i n m) (h2 : EpsS P s i m k) : EpsS P s i n k := by
  induction h2 with
  | refl => exact .step _ _ .refl h
  | step _ _ _ h3 ih => exact .step _ _ ih h3
/-- From the beginning at i there is a way to n at j. -/
def R (P : List Ins) (s : List UInt8) (i n j : Nat) : Prop := ∃ L, Path P s n j L 0 i
theorem R.start (i : Nat) : R P s i 0 i := ⟨0, .here⟩
theorem R.eps {i n m j : Nat} (h : R P s i n j) (he : Eps P s j n m) : R P s i m j := by
  obtain ⟨L, p⟩ := h
  exact ⟨_, p.trans (.eps _ _ _ _ he .here)⟩
theorem R.epsS {i n m j : Nat} (h : R P s i n j) (he : EpsS P s j n m) : R P s i m j := by
  induction he with
  | refl => exact h
  | step _ _ _ h2 ih => exact ih.eps h2
theorem R.byte {i n j : Nat} (h : R P s i n j) (hb : ByteAt P s j n) : R P s i (n + 1) (j + 1) := by
  obtain ⟨L, p⟩ := h
  exact ⟨_, p.trans (.byte _ _ _ hb .here)⟩
theorem Path.mono {N j L n i : Nat} (h : Path P s N j L n i) : i ≤ j := by
  induction h with
  | here => exact Nat.le_refl _
  | eps _ _ _ _ _ _ ih => exact ih
  | byte _ _ _ _ _ ih => omega
theorem R.le {i n j : Nat} (h : R P s i n j) : i ≤ j := by obtain ⟨L, p⟩ := h; exact p.mono
theorem Path.same {N j L n i : Nat} (h : Path P s N j L n i) : i = j → EpsS P s j n N := by
  induction h with
  | here => intro _; exact .refl
  | eps _ _ _ _ he _ ih => intro e; subst e; exact EpsS.front he (ih rfl)
  | byte _ _ _ _ hp _ => intro e; have := hp.mono; omega
theorem Path.last {N j L n i : Nat} (h : Path P s N j L n i) : ∀ a, j = a + 1 → i ≤ a → ∃ m, (∃ L', Path P s m a L' n i) ∧ ByteAt P s a m ∧ EpsS P s (a + 1) (m + 1) N := by
  induction h with
  | here => intro a e h; omega
  | eps L n m i he _ ih =>
    intro a e h
    obtain ⟨k, ⟨L', p⟩, hb, hs⟩ := ih a e h
    exact ⟨k, ⟨_, .eps _ _ _ _ he p⟩, hb, hs⟩
  | byte L n i hb hp ih =>
    intro a e h
    by_cases c : i + 1 ≤ a
    · obtain ⟨k, ⟨L', p⟩, hb', hs⟩ := ih a e c
      exact ⟨k, ⟨_, .byte _ _ _ hb p⟩, hb', hs⟩
    · obtain rfl : i = a := by omega
      subst e
      exact ⟨n, ⟨0, .here⟩, hb, hp.same rfl⟩
theorem R.last {i m a : Nat} (h : R P s i m (a + 1)) (hi : i ≤ a) : ∃ n, R P s i n a ∧ ByteAt P s a n ∧ EpsS P s (a + 1) (n + 1) m := by
  obtain ⟨L, p⟩ := h
  exact p.last a rfl hi
theorem R.same {m a : Nat} (h : R P s a m a) : EpsS P s a 0 m := by obtain ⟨L, p⟩ := h; exact p.same rfl

/-- What stands at a place: of each instruction the least beginning, and 1. -/
structure Thr (P : List Ins) (s : List UInt8) (i : Nat) (F : Nat → Nat) (ls : List Nat) : Prop where
  mem : ∀ n, n ∈ ls ↔ F n ≠ 0
  sorted : ls.Pairwise fun a b => F a ≤ F b
  closed : ∀ n m, F n ≠ 0 → Eps P s i n m → F m ≠ 0 ∧ F m ≤ F n
  real : ∀ n, F n ≠ 0 → ∃ k, F n = k + 1 ∧ R P s k n i
theorem Thr.epsS {i n m : Nat} {F : Nat → Nat} {ls : List Nat} (h : Thr P s i F ls) (hn : F n ≠ 0) (he : EpsS P s i n m) : F m ≠ 0 ∧ F m ≤ F n := by
  induction he with
  | refl => exact ⟨hn, Nat.le_refl _⟩
  | step _ _ _ h2 ih => have := h.closed _ _ ih.1 h2; exact ⟨this.1, by omega⟩
theorem Thr.zero (i : Nat) : Thr P s i (fun _ => 0) [] := ⟨fun n => by simp, .nil, fun n m h => absurd rfl h, fun n h => absurd rfl h⟩

/-! A thread added, and all that it goes to. -/
structure AddPost (P : List Ins) (s : List UInt8) (i n f : Nat) (F : Nat → Nat) (ls : List Nat) (G : Nat → Nat) (lg : List Nat) : Prop where
  keep : ∀ m, F m ≠ 0 → G m = F m
  new : ∀ m, F m = 0 → G m ≠ 0 → G m = f + 1 ∧ EpsS P s i n m
  lst : ∃ ns, lg = ls ++ ns ∧ ∀ m, m ∈ ns ↔ (F m = 0 ∧ G m ≠ 0)
  at_ : G n ≠ 0
  closed : ∀ m k, F m = 0 → G m ≠ 0 → Eps P s i m k → G k ≠ 0
theorem AddPost.thr {i n f : Nat} {F : Nat → Nat} {ls : List Nat} {G : Nat → Nat} {lg : List Nat} (h : AddPost P s i n f F ls G lg) (hF : Thr P s i F ls) (hmax : ∀ m, F m ≤ f + 1) (hr : R P s f n i) : Thr P s i G lg := by
  obtain ⟨ns, hls, hns⟩ := h.lst
  have hG : ∀ m, G m ≠ 0 → F m = 0 → G m = f + 1 := fun m h1 h2 => (h.new m h2 h1).1
  refine ⟨fun m => ?_, ?_, fun m k hm he => ?_, fun m hm => ?_⟩
  · rw [hls, List.mem_append, hF.mem, hns]
    constructor
    · rintro (h1 | h1)
      · rw [h.keep m h1]; exact h1
      · exact h1.2
    · intro h1
      by_cases c : F m = 0
      · exact .inr ⟨c, h1⟩
      · exact .inl c
  · rw [hls, List.pairwise_append]
    refine ⟨hF.sorted.imp_of_mem fun {a b} ha hb hab => by rw [h.keep a ((hF.mem a).1 ha), h.keep b ((hF.mem b).1 hb)]; exact hab, ?_, fun a ha b hb => ?_⟩
    · refine List.pairwise_iff_forall_sublist.2 fun {a b} hab => ?_
      have ha := (hns a).1 (hab.subset (by simp))
      have hb := (hns b).1 (hab.subset (by simp))
      rw [hG a ha.2 ha.1, hG b hb.2 hb.1]
      exact Nat.le_refl _
    · have hb' := (hns b).1 hb
      rw [h.keep a ((hF.mem a).1 ha), hG b hb'.2 hb'.1]
      exact hmax a
  · by_cases c : F m = 0
    · have h1 := h.closed m k c hm he
      refine ⟨h1, ?_⟩
      rw [hG m hm c]
      by_cases c2 : F k = 0
      · rw [hG k h1 c2]; exact Nat.le_refl _
      · rw [h.keep k c2]; exact hmax k
    · have h1 := hF.closed m k c he
      rw [h.keep m c, h.keep k h1.1]
      exact h1
  · by_cases c : F m = 0
    · obtain ⟨h1, h2⟩ := h.new m c hm
      exact ⟨f, h1, hr.epsS h2⟩
    · rw [h.keep m c]; exact hF.real m c
theorem AddPost.le {i n f : Nat} {F : Nat → Nat} {ls : List Nat} {G : Nat → Nat} {lg : List Nat} (h : AddPost P s i n f F ls G lg) (hmax : ∀ m, F m ≤ f + 1) (m : Nat) : G m ≤ f + 1 := by
  by_cases c : F m = 0
  · by_cases c2 : G m = 0
    · omega
    · rw [(h.new m c c2).1]; exact Nat.le_refl _
  · rw [h.keep m c]; exact hmax m

/-- In the midst of adding. -/
structure DfsI (P : List Ins) (s : List UInt8) (i n f : Nat) (F : Nat → Nat) (ls : List Nat) (G : Nat → Nat) (lg todo : List Nat) : Prop where
  keep : ∀ m, F m ≠ 0 → G m = F m
  new : ∀ m, F m = 0 → G m ≠ 0 → G m = f + 1 ∧ EpsS P s i n m
  lst : ∃ ns, lg = ls ++ ns ∧ ∀ m, m ∈ ns ↔ (F m = 0 ∧ G m ≠ 0)
  at_ : n ∈ todo ∨ G n ≠ 0
  pend : ∀ k ∈ todo, EpsS P s i n k
  closed : ∀ m k, F m = 0 → G m ≠ 0 → Eps P s i m k → G k ≠ 0 ∨ k ∈ todo
theorem DfsI.start (i n f : Nat) (F : Nat → Nat) (ls : List Nat) : DfsI P s i n f F ls F ls [n] :=
  ⟨fun _ _ => rfl, fun m h1 h2 => absurd h1 h2, ⟨[], by simp, fun m => ⟨fun h => (by cases h), fun h => absurd h.1 h.2⟩⟩, .inl (by simp), fun k hk => by rw [List.mem_singleton.1 hk]; exact .refl, fun m k h1 h2 => absurd h1 h2⟩
theorem DfsI.stop {i n f : Nat} {F : Nat → Nat} {ls : List Nat} {G : Nat → Nat} {lg : List Nat} (h : DfsI P s i n f F ls G lg []) : AddPost P s i n f F ls G lg :=
  ⟨h.keep, h.new, h.lst, h.at_.resolve_left (by simp), fun m k h1 h2 h3 => (h.closed m k h1 h2 h3).resolve_right (by simp)⟩
theorem DfsI.skip {i n f k : Nat} {F : Nat → Nat} {ls : List Nat} {G : Nat → Nat} {lg todo : List Nat} (h : DfsI P s i n f F ls G lg (todo ++ [k])) (hk : G k ≠ 0) : DfsI P s i n f F ls G lg todo := by
  refine ⟨h.keep, h.new, h.lst, ?_, fun q hq => h.pend q (by simp [hq]), fun m q h1 h2 h3 => ?_⟩
  · rcases h.at_ with h1 | h1
    · rcases List.mem_append.1 h1 with h2 | h2
      · exact .inl h2
      · rw [List.mem_singleton.1 h2]; exact .inr hk
    · exact .inr h1
  · rcases h.closed m q h1 h2 h3 with h4 | h4
    · exact .inl h4
    · rcases List.mem_append.1 h4 with h5 | h5
      · exact .inr h5
      · rw [List.mem_singleton.1 h5]; exact .inl hk
def upd (G : Nat → Nat) (k v : Nat) : Nat → Nat := fun m => if m = k then v else G m
theorem DfsI.mark {i n f k : Nat} {F : Nat → Nat} {ls : List Nat} {G : Nat → Nat} {lg todo succ : List Nat} (h : DfsI P s i n f F ls G lg (todo ++ [k])) (hk : G k = 0) (hs : ∀ m, m ∈ succ ↔ Eps P s i k m) :
    DfsI P s i n f F ls (upd G k (f + 1)) (lg ++ [k]) (todo ++ succ) := by
  have hFk : F k = 0 := by
    by_cases c : F k = 0
    · exact c
    · exact absurd ((h.keep k c).symm.trans hk) c
  have hkE : EpsS P s i n k := h.pend k (by simp)
  have hG : ∀ m, m ≠ k → upd G k (f + 1) m = G m := fun m hm => by unfold upd; rw [if_neg hm]
  have hGk : upd G k (f + 1) k = f + 1 := by unfold upd; rw [if_pos rfl]
  refine ⟨fun m hm => ?_, fun m h1 h2 => ?_, ?_, ?_, fun q hq => ?_, fun m q h1 h2 h3 => ?_⟩
  · rw [hG m (fun e => hm (by rw [e]; exact hFk))]; exact h.keep m hm
  · by_cases c : m = k
    · subst c; exact ⟨hGk, hkE⟩
    · rw [hG m c] at h2 ⊢; exact h.new m h1 h2
  · obtain ⟨ns, h1, h2⟩ := h.lst
    refine ⟨ns ++ [k], by rw [h1, List.append_assoc], fun m => ?_⟩
    rw [List.mem_append, h2, List.mem_singleton]
    by_cases c : m = k
    · subst c; rw [hGk]; exact ⟨fun _ => ⟨hFk, by omega⟩, fun _ => .inr rfl⟩
    · rw [hG m c]; exact ⟨fun h => h.resolve_right c, fun h => .inl h⟩
  · by_cases c : n = k
    · right; rw [c, hGk]; omega
    · rcases h.at_ with h1 | h1
      · rcases List.mem_append.1 h1 with h2 | h2
        · exact .inl (by simp [h2])
        · exact absurd (List.mem_singleton.1 h2) c
      · right; rw [hG n c]; exact h1
  · rcases List.mem_append.1 hq with h1 | h1
    · exact h.pend q (by simp [h1])
    · exact .step _ _ hkE ((hs q).1 h1)
  · have hq : ∀ q, G q ≠ 0 → upd G k (f + 1) q ≠ 0 := fun q hq => by
      by_cases c : q = k
      · rw [c, hGk]; omega
      · rw [hG q c]; exact hq
    by_cases c : m = k
    · subst c; exact .inr (by simp [(hs q).2 h3])
    · rw [hG m c] at h2
      rcases h.closed m q h1 h2 h3 with h4 | h4
      · exact .inl (hq q h4)
      · rcases List.mem_append.1 h4 with h5 | h5
        · exact .inr (by simp [h5])
        · rw [List.mem_singleton.1 h5, hGk]; exact .inl (by omega)

/-! A place: complete as far as beginnings still count. -/
def Comp (P : List Ins) (s : List UInt8) (i : Nat) (F : Nat → Nat) (found : Bool) (b : Nat) : Prop := ∀ n k, R P s k n i → (found = true → k ≤ b) → F n ≠ 0 ∧ F n ≤ k + 1
def CompLt (P : List Ins) (s : List UInt8) (i : Nat) (F : Nat → Nat) (found : Bool) (b : Nat) : Prop := ∀ n k, R P s k n i → k < i → (found = true → k ≤ b) → F n ≠ 0 ∧ F n ≤ k + 1
theorem comp_found {i b : Nat} {F : Nat → Nat} (h : CompLt P s i F true b) (hb : b < i) : Comp P s i F true b := fun n k hr hk => h n k hr (by have := hk rfl; omega) hk
theorem comp_added {i b : Nat} {F : Nat → Nat} {ls : List Nat} {G : Nat → Nat} {lg : List Nat} (h : CompLt P s i F false b) (hF : Thr P s i F ls) (hmax : ∀ m, F m ≤ i + 1) (ha : AddPost P s i 0 i F ls G lg) : Comp P s i G false b := fun n k hr _ => by
  have hG := ha.thr hF hmax (R.start i)
  have hki := hr.le
  by_cases c : k < i
  · obtain ⟨h1, h2⟩ := h n k hr c (fun e => by cases e)
    rw [ha.keep n h1]; exact ⟨h1, h2⟩
  · obtain rfl : k = i := by omega
    have h1 := hG.epsS ha.at_ hr.same
    exact ⟨h1.1, ha.le hmax n⟩
/-- The best span so far: of those that end ahead of t, and at t if the match was met there. -/
def BestI (P : List Ins) (s : List UInt8) (N : Nat) (T : Nat → Prop) (found : Bool) (f to : Nat) : Prop :=
  (found = true → R P s f N to ∧ T to ∧ ∀ i j, R P s i N j → T j → f < i ∨ (f = i ∧ j ≤ to)) ∧ (found = false → (∀ i j, T j → ¬ R P s i N j) ∧ f = 0 ∧ to = 0)
theorem best_none (N : Nat) : BestI P s N (fun j => j < 0) false 0 0 := ⟨fun e => (by cases e), fun _ => ⟨fun i j h => absurd h (by omega), rfl, rfl⟩⟩
/-- The match is met, and counts. -/
theorem best_take {N t f to k b : Nat} {found found0 : Bool} {F : Nat → Nat} (h : BestI P s N (fun j => j < t) found f to) (hr : R P s k N t) (hF : F N = k + 1) (hc : Comp P s t F found0 b) (h0 : found0 = true → found = true ∧ f ≤ b) (hk : found = true → k ≤ f) :
    BestI P s N (fun j => j < t + 1) true k t := by
  refine ⟨fun _ => ⟨hr, Nat.lt_succ_self _, fun i j hij hj => ?_⟩, fun e => by cases e⟩
  by_cases c : j < t
  · cases hfd : found with
    | false => exact absurd hij ((h.2 hfd).1 i j c)
    | true =>
      have h1 := (h.1 hfd).2.2 i j hij c
      have h2 := hk hfd
      omega
  · obtain rfl : j = t := by omega
    by_cases c2 : found0 = true → i ≤ b
    · have h1 := (hc N i hij c2).2
      rw [hF] at h1
      omega
    · have c3 : found0 = true := by cases hq : found0; exact absurd (fun e => by rw [hq] at e; cases e) c2; rfl
      have h1 := h0 c3
      have h2 := hk h1.1
      have h3 : ¬ i ≤ b := fun e => c2 fun _ => e
      omega
/-- The match is not met, or counts no more. -/
theorem best_pass {N t f to b : Nat} {found found0 : Bool} {F : Nat → Nat} (h : BestI P s N (fun j => j < t) found f to) (hc : Comp P s t F found0 b) (h0 : found0 = true → found = true ∧ f ≤ b) (hno : F N ≠ 0 → found = true ∧ f + 1 < F N) :
    BestI P s N (fun j => j < t + 1) found f to := by
  have key : ∀ i, R P s i N t → found = true ∧ f < i := fun i hi => by
    by_cases c2 : found0 = true → i ≤ b
    · obtain ⟨h1, h2⟩ := hc N i hi c2
      have h3 := hno h1
      exact ⟨h3.1, by omega⟩
    · have c3 : found0 = true := by cases hq : found0; exact absurd (fun e => by rw [hq] at e; cases e) c2; rfl
      have h1 := h0 c3
      have h3 : ¬ i ≤ b := fun e => c2 fun _ => e
      exact ⟨h1.1, by omega⟩
  refine ⟨fun e => ⟨(h.1 e).1, by have := (h.1 e).2.1; omega, fun i j hij hj => ?_⟩, fun e => ⟨fun i j hj hij => ?_, (h.2 e).2⟩⟩
  · by_cases c : j < t
    · exact (h.1 e).2.2 i j hij c
    · obtain rfl : j = t := by omega
      exact .inl (key i hij).2
  · by_cases c : j < t
    · exact (h.2 e).1 i j c hij
    · obtain rfl : j = t := by omega
      have := (key i hij).1
      rw [e] at this; cases this
/-- The next place, out of all that was processed. -/
theorem next_comp {t f b : Nat} {found found0 : Bool} {F G : Nat → Nat} {lg : List Nat} (hc : Comp P s t F found0 b) (h0 : found0 = true → found = true ∧ f ≤ b) (hG : Thr P s (t + 1) G lg)
    (hp : ∀ n, F n ≠ 0 → ByteAt P s t n → (found = true → F n ≤ f + 1) → G (n + 1) ≠ 0 ∧ G (n + 1) ≤ F n) : CompLt P s (t + 1) G found f := fun m k hr hk hf => by
  obtain ⟨n, h1, h2, h3⟩ := hr.last (by omega)
  obtain ⟨h4, h5⟩ := hc n k h1 (fun e => by have := h0 e; have := hf this.1; omega)
  obtain ⟨h6, h7⟩ := hp n h4 h2 (fun e => by have := hf e; omega)
  obtain ⟨h8, h9⟩ := hG.epsS h6 h3
  exact ⟨h8, by omega⟩
end
end Go.Proofs.Yteinbjopclblaaa
