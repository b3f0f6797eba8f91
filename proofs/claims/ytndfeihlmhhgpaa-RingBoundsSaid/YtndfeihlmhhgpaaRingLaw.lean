/- The plain part of the ring's laws: what Recover finds, told by the blocks that are there. -/
import Derived.Test.YtndfeihlmhhgpaaRingPure
namespace Go.Proofs.Ytndfeihlmhhgpaa

theorem goUp_eq (may : Int → Bool) : ∀ (k : Nat) (a t : Int), a ≤ t → t - a ≤ k → (∀ n, a ≤ n → n < t → may n = true) → may t = false → goUp may k a = t
  | 0, a, t, h1, h2, _, _ => by unfold goUp; omega
  | k + 1, a, t, h1, h2, h3, h4 => by
    unfold goUp
    by_cases h : a = t
    · subst h; rw [h4]; rfl
    · rw [h3 a (Int.le_refl _) (by omega), if_pos rfl]
      exact goUp_eq may k (a + 1) t (by omega) (by omega) (fun n hn => h3 n (by omega)) h4
theorem goDown_eq (may : Int → Bool) : ∀ (k : Nat) (a t : Int), t ≤ a → a - t ≤ k → (∀ n, t < n → n ≤ a → may n = true) → may t = false → goDown may k a = t
  | 0, a, t, h1, h2, _, _ => by unfold goDown; omega
  | k + 1, a, t, h1, h2, h3, h4 => by
    unfold goDown
    by_cases h : a = t
    · subst h; rw [h4]; rfl
    · rw [h3 a (by omega) (Int.le_refl _), if_pos rfl]
      exact goDown_eq may k (a - 1) t (by omega) (by omega) (fun n hn hm => h3 n hn (by omega)) h4

/-- Of the blocks of a life in the list, those of number n are B n, and there are such just where P n. -/
structure There (life : Int) (l : List GB) (B : Int → GB) (P : Int → Prop) : Prop where
  is : ∀ b ∈ l, b.pick life = true → b = B b.n ∧ P b.n
  all : ∀ n, P n → ∃ b ∈ l, b.pick life = true ∧ b.n = n

theorem found_some {life n : Int} {l : List GB} (h : ∃ b ∈ l, b.pick life = true ∧ b.n = n) : (mget (foundOf life l) n).isSome = true := by
  induction l using snocInd with
  | h0 => obtain ⟨b, hb, _⟩ := h; cases hb
  | h1 l c ih =>
    rw [foundOf_snoc]
    by_cases hc : c.pick life = true
    · rw [if_pos hc, mget_mput]
      by_cases hn : n = c.n
      · rw [if_pos hn]; rfl
      · rw [if_neg hn]
        obtain ⟨b, hb, hp, hbn⟩ := h
        rcases List.mem_append.1 hb with hb | hb
        · exact ih ⟨b, hb, hp, hbn⟩
        · rw [List.mem_singleton] at hb; subst hb; exact absurd hbn.symm hn
    · rw [if_neg hc]
      obtain ⟨b, hb, hp, hbn⟩ := h
      rcases List.mem_append.1 hb with hb | hb
      · exact ih ⟨b, hb, hp, hbn⟩
      · rw [List.mem_singleton] at hb; subst hb; exact absurd hp hc
theorem There.get {life : Int} {l : List GB} {B : Int → GB} {P : Int → Prop} (H : There life l B P) {n : Int} (h : P n) : mget (foundOf life l) n = some (B n) := by
  have := found_some (H.all n h)
  cases hg : mget (foundOf life l) n with
  | none => rw [hg] at this; cases this
  | some c =>
    obtain ⟨h1, h2, h3⟩ := foundOf_mem (mget_mem hg)
    rw [(H.is c h1 h3).1, h2]
theorem There.none {life : Int} {l : List GB} {B : Int → GB} {P : Int → Prop} (H : There life l B P) {n : Int} (h : ¬ P n) : mget (foundOf life l) n = Option.none := by
  cases hg : mget (foundOf life l) n with
  | none => rfl
  | some c =>
    obtain ⟨h1, h2, h3⟩ := foundOf_mem (mget_mem hg)
    exact absurd (h2 ▸ (H.is c h1 h3).2) h
theorem There.at {life : Int} {l : List GB} {B : Int → GB} {P : Int → Prop} (H : There life l B P) {n : Int} (h : P n) : at? (foundOf life l) n = B n := by
  unfold at?; rw [H.get h]; rfl
theorem greatest_ge {life : Int} {l : List GB} {b : GB} (hb : b ∈ l) (hp : b.pick life = true) : b.n ≤ greatestOf life l := by
  induction l using snocInd with
  | h0 => cases hb
  | h1 l c ih =>
    rw [greatestOf_snoc]
    rcases List.mem_append.1 hb with hb | hb
    · have := ih hb
      split <;> omega
    · rw [List.mem_singleton] at hb; subst hb
      rw [if_pos hp]; omega
theorem greatest_mem {life : Int} {l : List GB} : greatestOf life l = -1 ∨ ∃ b ∈ l, b.pick life = true ∧ b.n = greatestOf life l := by
  induction l using snocInd with
  | h0 => left; rfl
  | h1 l c ih =>
    rw [greatestOf_snoc]
    by_cases hc : c.pick life = true
    · rw [if_pos hc]
      by_cases hm : c.n ≤ greatestOf life l
      · rw [show max (greatestOf life l) c.n = greatestOf life l by omega]
        rcases ih with h | ⟨b, hb, h⟩
        · exact .inl h
        · exact .inr ⟨b, by simp [hb], h⟩
      · rw [show max (greatestOf life l) c.n = c.n by omega]
        exact .inr ⟨c, by simp, hc, rfl⟩
    · rw [if_neg hc]
      rcases ih with h | ⟨b, hb, h⟩
      · exact .inl h
      · exact .inr ⟨b, by simp [hb], h⟩
theorem There.greatest {life : Int} {l : List GB} {B : Int → GB} {P : Int → Prop} (H : There life l B P) {g : Int} (h : P g) (hm : ∀ n, P n → n ≤ g) (h0 : 0 ≤ g) : greatestOf life l = g := by
  obtain ⟨b, hb, hp, hn⟩ := H.all g h
  have h1 := greatest_ge hb hp
  rcases greatest_mem (life := life) (l := l) with h2 | ⟨c, hc, hcp, hcn⟩
  · omega
  · have := hm _ (H.is c hc hcp).2
    omega
theorem There.nothing {life : Int} {l : List GB} {B : Int → GB} {P : Int → Prop} (H : There life l B P) (h : ∀ n, ¬ P n) : greatestOf life l = -1 := by
  rcases greatest_mem (life := life) (l := l) with h2 | ⟨c, hc, hcp, hcn⟩
  · exact h2
  · exact absurd (H.is c hc hcp).2 (h _)
/-- The lengths of the data of k blocks from number a on. -/
def sumB (B : Int → GB) : Nat → Int → Int
  | 0, _ => 0
  | k + 1, a => sumB B k a + ((B (a + k)).data.length : Int)
theorem sumLen_eq {m : List (Int × GB)} {B : Int → GB} : ∀ (k : Nat) (a : Int), (∀ n, a ≤ n → n < a + k → at? m n = B n) → sumLen m k a = sumB B k a
  | 0, a, _ => rfl
  | k + 1, a, h => by
    unfold sumLen sumB
    rw [sumLen_eq k a (fun n h0 h1 => h n h0 (by omega)), h (a + k) (by omega) (by omega)]
theorem sumB_add (B : Int → GB) (a : Int) (j : Nat) : ∀ k : Nat, sumB B (j + k) a = sumB B j a + sumB B k (a + j)
  | 0 => by simp [sumB]
  | k + 1 => by
    rw [← Nat.add_assoc]
    show sumB B (j + k) a + ((B (a + ((j + k : Nat) : Int))).data.length : Int) = sumB B j a + (sumB B k (a + j) + ((B (a + j + k)).data.length : Int))
    rw [sumB_add B a j k, show a + ((j + k : Nat) : Int) = a + j + k by omega]
    omega

theorem recover_is {files blocks life : Int} {l : List GB} {B : Int → GB} {P : Int → Prop} (H : There life l B P) {g te fr : Int} (hb : 1 ≤ blocks)
    (hP : P g) (hm : ∀ n, P n → 0 ≤ n ∧ n ≤ g) (hto0 : g / blocks * blocks ≤ te) (hto1 : te ≤ g / blocks * blocks + blocks) (hup : ∀ n, g / blocks * blocks ≤ n → n < te → P n)
    (hboot : ∀ n, g / blocks * blocks < n → n < te → (B (n - 1)).boot ≤ (B n).boot) (hstop : te = g / blocks * blocks + blocks ∨ ¬ P te)
    (hf0 : max 0 ((g / blocks - files + 1) * blocks) ≤ fr) (hf1 : fr ≤ te) (hdn : ∀ n, fr ≤ n → n < te → P n) (hst2 : fr = max 0 ((g / blocks - files + 1) * blocks) ∨ ¬ P (fr - 1)) :
    recover files blocks life l = ⟨fr, te, if fr < te then (B fr).off else 0, sumB B (te - fr).toNat fr⟩ := by
  have hg := H.greatest hP (fun n h => (hm n h).2) (hm g hP).1
  have e1 : goUp (mayUp (foundOf life l) (g / blocks * blocks) blocks) blocks.toNat (g / blocks * blocks) = te := by
    refine goUp_eq _ _ _ _ hto0 (by omega) (fun n h0 h1 => ?_) ?_
    · unfold mayUp
      rw [H.get (hup n h0 h1), decide_eq_true (by omega : n < g / blocks * blocks + blocks)]
      by_cases hn : n = g / blocks * blocks
      · rw [beq_iff_eq.2 hn]; rfl
      · rw [H.at (hup n h0 h1), H.at (hup (n - 1) (by omega) (by omega)), decide_eq_true (hboot n (by omega) h1)]
        simp
    · rcases hstop with h | h
      · exact mayUp_end _ _ _ _ (by omega)
      · unfold mayUp; rw [H.none h]; rfl
  have e2 : goDown (mayDown (foundOf life l) (max 0 ((g / blocks - files + 1) * blocks))) (te - max 0 ((g / blocks - files + 1) * blocks)).toNat te = fr := by
    refine goDown_eq _ _ _ _ hf1 (by omega) (fun n h0 h1 => ?_) ?_
    · unfold mayDown
      rw [H.get (hdn (n - 1) (by omega) (by omega)), decide_eq_true (by omega : max 0 ((g / blocks - files + 1) * blocks) < n)]
      rfl
    · rcases hst2 with h | h
      · exact mayDown_end _ _ _ (by omega)
      · unfold mayDown; rw [H.none h]; rfl
  unfold recover
  simp only [hg]
  rw [if_neg (by have := (hm g hP).1; omega), e1, e2]
  congr 1
  · by_cases h : fr < te
    · rw [if_pos h, if_pos h, H.at (hdn fr (Int.le_refl _) h)]
    · rw [if_neg h, if_neg h]
  · exact sumLen_eq _ _ (fun n h0 h1 => H.at (hdn n h0 (by omega)))
end Go.Proofs.Ytndfeihlmhhgpaa
