/- Texts of this seat, merged. -/
set_option linter.unusedVariables false
set_option linter.unusedSimpArgs false
namespace Mis
def ch : Nat → Nat → Nat
  | _, 0 => 1
  | 0, _+1 => 0
  | n+1, k+1 => ch n k + ch n (k+1)

theorem ch_zero (n : Nat) : ch n 0 = 1 := by cases n <;> rfl
theorem ch_succ (n k : Nat) : ch (n+1) (k+1) = ch n k + ch n (k+1) := rfl
theorem ch_lt : ∀ (n k : Nat), n < k → ch n k = 0
  | 0, k+1, _ => rfl
  | n+1, k+1, h => by rw [ch_succ, ch_lt n k (by omega), ch_lt n (k+1) (by omega)]
theorem ch_self : ∀ n : Nat, ch n n = 1
  | 0 => rfl
  | n+1 => by rw [ch_succ, ch_self n, ch_lt n (n+1) (by omega)]
theorem ch_pos : ∀ (n k : Nat), k ≤ n → 0 < ch n k
  | n, 0, _ => by rw [ch_zero]; omega
  | n+1, k+1, h => by have := ch_pos n k (by omega); rw [ch_succ]; omega
theorem ch_le_pow : ∀ (n k : Nat), ch n k ≤ 2 ^ n
  | n, 0 => by rw [ch_zero]; exact Nat.one_le_two_pow
  | 0, k+1 => by rw [ch_lt 0 (k+1) (by omega)]; omega
  | n+1, k+1 => by have := ch_le_pow n k; have := ch_le_pow n (k+1); rw [ch_succ, Nat.pow_succ]; omega
theorem ch_mono (n k : Nat) : ch n k ≤ ch (n+1) k := by
  cases k with
  | zero => simp [ch_zero]
  | succ k => rw [ch_succ]; omega
theorem ch_mono_add (n m k : Nat) : ch n k ≤ ch (n+m) k := by
  induction m with
  | zero => exact Nat.le_refl _
  | succ m ih => exact Nat.le_trans ih (ch_mono _ _)
theorem ch_symm : ∀ (a b : Nat), ch (a+b) a = ch (a+b) b
  | 0, b => by simp [ch_zero, ch_self]
  | a+1, 0 => by simp [ch_zero, ch_self]
  | a+1, b+1 => by
    have e : a + 1 + (b + 1) = (a + b + 1) + 1 := by omega
    have h1 := ch_symm a (b+1)
    have h2 := ch_symm (a+1) b
    rw [show a + (b+1) = a+b+1 by omega] at h1
    rw [show a + 1 + b = a+b+1 by omega] at h2
    rw [e, ch_succ (a+b+1) a, ch_succ (a+b+1) b, h1, ← h2, Nat.add_comm]
theorem ch_sub (n k : Nat) (h : k ≤ n) : ch n (n-k) = ch n k := by
  have := ch_symm k (n-k); rw [show k + (n-k) = n by omega] at this; exact this.symm
/-- (k+1) C(n,k+1) = (n-k) C(n,k) -/
theorem ch_step : ∀ (n k : Nat), k ≤ n → (k+1) * ch n (k+1) = (n-k) * ch n k
  | 0, k, h => by obtain rfl : k = 0 := by omega
                  rfl
  | n+1, 0, _ => by
    have := ch_step n 0 (by omega)
    simp only [ch_succ, ch_zero] at *; omega
  | n+1, k+1, h => by
    by_cases hk : k = n
    · subst hk; rw [ch_lt (k+1) (k+1+1) (by omega)]; simp
    · have h1 := ch_step n k (by omega)
      have h2 := ch_step n (k+1) (by omega)
      rw [ch_succ, ch_succ]
      obtain ⟨d, rfl⟩ : ∃ d, n = k + 1 + d := ⟨n - (k+1), by omega⟩
      rw [show k + 1 + d - k = d + 1 by omega] at h1
      rw [show k + 1 + d - (k+1) = d by omega] at h2
      rw [show k + 1 + d + 1 - (k+1) = d + 1 by omega]
      generalize ch (k+1+d) k = A at *
      generalize ch (k+1+d) (k+1) = B at *
      generalize ch (k+1+d) (k+1+1) = C at *
      have e1 : (k+1+1) * (B + C) = (k+1)*B + B + (k+1+1)*C := by rw [Nat.mul_add]; have : (k+1+1)*B = (k+1)*B + B := by rw [Nat.succ_mul]
                                                                  omega
      have e2 : (d+1) * (A + B) = (d+1)*A + d*B + B := by rw [Nat.mul_add, Nat.succ_mul d B]; omega
      omega
/-- i C(m+i, i) = (m+i) C(m+i-1, i-1), with i = j+1 -/
theorem ch_abs : ∀ (n j : Nat), (j+1) * ch (n+1) (j+1) = (n+1) * ch n j := by
  intro n j
  by_cases h : j ≤ n
  · rw [ch_succ, Nat.mul_add, ch_step n j h]
    have : j + 1 + (n - j) = n + 1 := by omega
    rw [← Nat.add_mul, this]
  · rw [ch_lt (n+1) (j+1) (by omega), ch_lt n j (by omega)]; simp

/-- the step of the reference's Ways: out times f, over i, by the gcd -/
theorem mul_div_gcd (o f i : Nat) (hi : 0 < i) (hd : i ∣ o * f) : o / Nat.gcd o i * (f / (i / Nat.gcd o i)) = o * f / i := by
  have hg : 0 < Nat.gcd o i := Nat.gcd_pos_of_pos_right _ hi
  obtain ⟨o', ho⟩ := Nat.gcd_dvd_left o i
  obtain ⟨i', hi'⟩ := Nat.gcd_dvd_right o i
  have hc : (o / Nat.gcd o i).Coprime (i / Nat.gcd o i) := Nat.coprime_div_gcd_div_gcd hg
  generalize hG : Nat.gcd o i = g at *
  have e1 : o / g = o' := by rw [ho]; exact Nat.mul_div_cancel_left _ hg
  have e2 : i / g = i' := by rw [hi']; exact Nat.mul_div_cancel_left _ hg
  rw [e1, e2] at hc ⊢
  have hi0 : 0 < i' := by
    rcases Nat.eq_zero_or_pos i' with h | h
    · subst h; simp at hi'; omega
    · exact h
  have hdv : i' ∣ f := by
    refine Nat.Coprime.dvd_of_dvd_mul_left hc.symm ?_
    rw [ho, hi', Nat.mul_assoc] at hd
    exact Nat.dvd_of_mul_dvd_mul_left hg hd
  obtain ⟨q, rfl⟩ := hdv
  rw [Nat.mul_div_cancel_left _ hi0, ho, hi', Nat.mul_assoc, show g * (o' * (i' * q)) = g * i' * (o' * q) by ac_rfl, Nat.mul_div_cancel_left _ (Nat.mul_pos hg hi0)]
theorem ways_round (m j : Nat) : ch (m+j) j / Nat.gcd (ch (m+j) j) (j+1) * ((m+j+1) / ((j+1) / Nat.gcd (ch (m+j) j) (j+1))) = ch (m+j+1) (j+1) := by
  have h := ch_abs (m+j) j
  rw [mul_div_gcd _ _ _ (by omega) ⟨ch (m+j+1) (j+1), by rw [Nat.mul_comm, ← h]⟩, Nat.mul_comm, ← h, Nat.mul_div_cancel_left _ (by omega)]

/-! sums -/
/-- sum of f over from .. from+n-1 -/
def sm (f : Nat → Nat) (a : Nat) : Nat → Nat
  | 0 => 0
  | n+1 => sm f a n + f (a+n)
theorem sm_zero (f : Nat → Nat) (a : Nat) : sm f a 0 = 0 := rfl
theorem sm_succ (f : Nat → Nat) (a n : Nat) : sm f a (n+1) = sm f a n + f (a+n) := rfl
theorem sm_add (f : Nat → Nat) (a m n : Nat) : sm f a (m+n) = sm f a m + sm f (a+m) n := by
  induction n with
  | zero => simp [sm]
  | succ n ih => rw [← Nat.add_assoc, sm_succ, sm_succ, ih, Nat.add_assoc, Nat.add_assoc]
theorem sm_le {f g : Nat → Nat} {a n : Nat} (h : ∀ i, a ≤ i → i < a + n → f i ≤ g i) : sm f a n ≤ sm g a n := by
  induction n with
  | zero => simp [sm]
  | succ n ih => rw [sm_succ, sm_succ]; exact Nat.add_le_add (ih fun i h1 h2 => h i h1 (by omega)) (h _ (by omega) (by omega))
theorem sm_congr {f g : Nat → Nat} {a n : Nat} (h : ∀ i, a ≤ i → i < a + n → f i = g i) : sm f a n = sm g a n := by
  induction n with
  | zero => simp [sm]
  | succ n ih => rw [sm_succ, sm_succ, ih fun i h1 h2 => h i h1 (by omega), h _ (by omega) (by omega)]
theorem sm_shift (f : Nat → Nat) (a n : Nat) : sm f (a+1) n = sm (fun i => f (i+1)) a n := by
  induction n with
  | zero => rfl
  | succ n ih => rw [sm_succ, sm_succ, ih, show a + 1 + n = a + n + 1 by omega]
theorem sm_first (f : Nat → Nat) (a n : Nat) : sm f a (n+1) = f a + sm f (a+1) n := by
  rw [Nat.add_comm n 1, sm_add]; simp [sm]
theorem sm_plus (f g : Nat → Nat) (a n : Nat) : sm (fun i => f i + g i) a n = sm f a n + sm g a n := by
  induction n with
  | zero => rfl
  | succ n ih => simp only [sm_succ, ih]; omega
theorem sm_mul (f : Nat → Nat) (c a n : Nat) : sm (fun i => c * f i) a n = c * sm f a n := by
  induction n with
  | zero => rfl
  | succ n ih => simp only [sm_succ, ih, Nat.mul_add]
theorem sm_zeros {f : Nat → Nat} {a n : Nat} (h : ∀ i, a ≤ i → i < a + n → f i = 0) : sm f a n = 0 := by
  rw [sm_congr (g := fun _ => 0) h]; induction n with
  | zero => rfl
  | succ n ih => rw [sm_succ, ih fun i h1 h2 => h i h1 (by omega)]
theorem sm_get_le (f : Nat → Nat) (a n i : Nat) (h1 : a ≤ i) (h2 : i < a + n) : f i ≤ sm f a n := by
  obtain ⟨d, rfl⟩ : ∃ d, i = a + d := ⟨i - a, by omega⟩
  obtain ⟨r, rfl⟩ : ∃ r, n = d + 1 + r := ⟨n - (d+1), by omega⟩
  rw [sm_add, sm_succ]; omega

/-- Vandermonde -/
theorem vand : ∀ (L u S : Nat), sm (fun k => ch L k * ch u (S-k)) 0 (S+1) = ch (L+u) S
  | 0, u, S => by
    rw [sm_first, sm_zeros]
    · simp [ch_zero]
    · intro i h1 h2; rw [ch_lt 0 i (by omega)]; simp
  | L+1, u, 0 => by simp [sm, ch_zero]
  | L+1, u, S+1 => by
    have h1 := vand L u S
    have h2 := vand L u (S+1)
    rw [show L + 1 + u = L + u + 1 by omega, ch_succ, ← h1, ← h2]
    rw [sm_first, sm_shift]
    rw [sm_first (fun k => ch L k * ch u (S+1-k)), sm_shift (fun k => ch L k * ch u (S+1-k))]
    rw [sm_congr (g := fun i => ch L i * ch u (S - i) + ch L (i+1) * ch u (S+1-(i+1)))]
    · rw [sm_plus]; simp [ch_zero]; omega
    · intro i _ _
      rw [ch_succ, Nat.add_mul, show S + 1 - (i+1) = S - i by omega]

/-- log-concavity: for b ≤ a: C(u,a+1) C(u,b) ≤ C(u,a) C(u,b+1) -/
theorem ch_logc (u a b : Nat) (h : b ≤ a) : ch u (a+1) * ch u b ≤ ch u a * ch u (b+1) := by
  by_cases ha : u < a + 1
  · rw [ch_lt u (a+1) ha]; simp
  · have h1 := ch_step u a (by omega)
    have h2 := ch_step u b (by omega)
    -- multiply by (a+1)(b+1)
    have hp : 0 < (a+1) * (b+1) := Nat.mul_pos (by omega) (by omega)
    refine Nat.le_of_mul_le_mul_left ?_ hp
    have e1 : (a+1) * (b+1) * (ch u (a+1) * ch u b) = (b+1) * (u-a) * (ch u a * ch u b) := by
      rw [show (a+1) * (b+1) * (ch u (a+1) * ch u b) = ((a+1) * ch u (a+1)) * ((b+1) * ch u b) by ac_rfl, h1]; ac_rfl
    have e2 : (a+1) * (b+1) * (ch u a * ch u (b+1)) = (a+1) * (u-b) * (ch u a * ch u b) := by
      rw [show (a+1) * (b+1) * (ch u a * ch u (b+1)) = ((a+1) * ch u a) * ((b+1) * ch u (b+1)) by ac_rfl, h2]; ac_rfl
    rw [e1, e2]
    refine Nat.mul_le_mul_right _ (Nat.mul_le_mul (by omega) (by omega))

theorem sm_mul_le {g g' : Nat → Nat} {c c' b n : Nat} (h : ∀ j, b ≤ j → j < b + n → c * g j ≤ c' * g' j) : c * sm g b n ≤ c' * sm g' b n := by
  induction n with
  | zero => simp [sm]
  | succ n ih =>
    rw [sm_succ, sm_succ, Nat.mul_add, Nat.mul_add]
    exact Nat.add_le_add (ih fun j h1 h2 => h j h1 (by omega)) (h _ (by omega) (by omega))
theorem sm_mul_sm_le {f f' g g' : Nat → Nat} {a m b n : Nat} (h : ∀ i j, a ≤ i → i < a + m → b ≤ j → j < b + n → f i * g j ≤ f' i * g' j) :
    sm f a m * sm g b n ≤ sm f' a m * sm g' b n := by
  induction m with
  | zero => simp [sm]
  | succ m ih =>
    rw [sm_succ, sm_succ, Nat.add_mul, Nat.add_mul]
    exact Nat.add_le_add (ih fun i j h1 h2 => h i j h1 (by omega)) (sm_mul_le fun j h1 h2 => h _ j (by omega) (by omega) h1 h2)

def sets (L u S k : Nat) : Nat := ch L k * ch u (S-k)
def low (L u S k : Nat) : Nat := sm (sets L u S) 0 (k+1)
def up (L u S k : Nat) : Nat := sm (sets L u S) k (S+1-k)
def tot (L u S : Nat) : Nat := ch (L+u) S
theorem low_full (L u S : Nat) : low L u S S = tot L u S := vand L u S
theorem up_full (L u S : Nat) : up L u S 0 = tot L u S := vand L u S
theorem low_up (L u S k : Nat) (h : k < S) : low L u S k + up L u S (k+1) = tot L u S := by
  rw [← low_full]; unfold low up
  have e := sm_add (sets L u S) 0 (k+1) (S+1-(k+1))
  rw [show k+1 + (S+1-(k+1)) = S + 1 by omega, Nat.zero_add] at e
  exact e.symm
theorem low_le (L u S k : Nat) (h : k ≤ S) : low L u S k ≤ tot L u S := by
  rw [← low_full]; unfold low
  have e := sm_add (sets L u S) 0 (k+1) (S-k)
  rw [show k+1 + (S-k) = S + 1 by omega] at e
  omega
theorem up_le (L u S k : Nat) (h : k ≤ S) : up L u S k ≤ tot L u S := by
  cases k with
  | zero => rw [up_full]; exact Nat.le_refl _
  | succ k => have := low_up L u S k (by omega); omega
theorem tot_pos (L u S : Nat) (h : S ≤ L) : 0 < tot L u S := ch_pos _ _ (by omega)
theorem low_succ_u (L u s k : Nat) (h : k ≤ s) : low L (u+1) (s+1) k = low L u (s+1) k + low L u s k := by
  unfold low
  rw [← sm_plus]
  refine sm_congr fun i _ h2 => ?_
  unfold sets
  rw [show s + 1 - i = (s - i) + 1 by omega, ch_succ, Nat.mul_add, Nat.add_comm]
theorem tot_succ_u (L u s : Nat) : tot L (u+1) (s+1) = tot L u (s+1) + tot L u s := by
  unfold tot
  rw [show L + (u+1) = L + u + 1 by omega, ch_succ, Nat.add_comm]
theorem low_cross (L u s k : Nat) (h : k ≤ s) : low L u (s+1) k * tot L u s ≤ low L u s k * tot L u (s+1) := by
  by_cases hk : k = s
  · subst hk
    rw [← low_full L u k, Nat.mul_comm]
    exact Nat.mul_le_mul_left _ (low_le _ _ _ _ (by omega))
  · have e1 := low_up L u s k (by omega)
    have e2 := low_up L u (s+1) k (by omega)
    rw [← e1, ← e2, Nat.mul_add, Nat.mul_add, Nat.mul_comm (low L u (s+1) k) (low L u s k)]
    refine Nat.add_le_add_left ?_ _
    have hU : sm (sets L u (s+1)) (k+1) (s+1-(k+1)) ≤ up L u (s+1) (k+1) := by
      unfold up
      rw [show s + 1 + 1 - (k+1) = (s+1-(k+1)) + 1 by omega, sm_succ]; omega
    refine Nat.le_trans ?_ (Nat.mul_le_mul_left _ hU)
    unfold low up
    refine sm_mul_sm_le fun i j _ h2 h3 h4 => ?_
    unfold sets
    have := ch_logc u (s-i) (s-j) (by omega)
    rw [show s + 1 - i = s - i + 1 by omega, show s + 1 - j = s - j + 1 by omega]
    rw [show ch L i * ch u (s - i + 1) * (ch L j * ch u (s - j)) = (ch L i * ch L j) * (ch u (s-i+1) * ch u (s-j)) by ac_rfl,
      show ch L i * ch u (s - i) * (ch L j * ch u (s - j + 1)) = (ch L i * ch L j) * (ch u (s-i) * ch u (s-j+1)) by ac_rfl]
    exact Nat.mul_le_mul_left _ this
/-- the lower tail does not fall with u -/
theorem low_rises (L u S k : Nat) (h : k ≤ S) : low L u S k * tot L (u+1) S ≤ low L (u+1) S k * tot L u S := by
  by_cases hk : k = S
  · subst hk; rw [low_full, low_full, Nat.mul_comm]; exact Nat.le_refl _
  · obtain ⟨s, rfl⟩ : ∃ s, S = s + 1 := ⟨S - 1, by omega⟩
    rw [low_succ_u _ _ _ _ (by omega), tot_succ_u, Nat.mul_add, Nat.add_mul]
    exact Nat.add_le_add_left (low_cross _ _ _ _ (by omega)) _
/-- the upper tail does not rise with u -/
theorem up_falls (L u S k : Nat) (h : k ≤ S) : up L (u+1) S k * tot L u S ≤ up L u S k * tot L (u+1) S := by
  cases k with
  | zero => rw [up_full, up_full, Nat.mul_comm]; exact Nat.le_refl _
  | succ k =>
    have h1 := low_rises L u S k (by omega)
    have e1 := low_up L u S k (by omega)
    have e2 := low_up L (u+1) S k (by omega)
    rw [← e2, ← e1, Nat.mul_add, Nat.mul_add] at h1 ⊢
    rw [Nat.mul_comm (up L (u+1) S (k+1)) (low L u S k), Nat.mul_comm (up L (u+1) S (k+1)) (up L u S (k+1)), Nat.mul_comm (up L u S (k+1)) (low L (u+1) S k)]
    rw [Nat.mul_comm (low L (u+1) S k) (low L u S k)] at h1
    have : low L u S k * up L (u + 1) S (k + 1) ≤ low L (u + 1) S k * up L u S (k + 1) := by omega
    omega

/-! fractions: a/b is lower than c/d -/
def lower (a b c d : Nat) : Bool := decide (a * d < c * b)
theorem lower_iff {a b c d : Nat} : lower a b c d = true ↔ a * d < c * b := by simp [lower]
theorem lower_no {a b c d : Nat} : lower a b c d = false ↔ c * b ≤ a * d := by simp [lower]
theorem lower_parts {a b c d : Nat} (hb : 0 < b) (hd : 0 < d) (h : a / b ≠ c / d) : lower a b c d = decide (a / b < c / d) := by
  have h1 := Nat.div_add_mod a b
  have h2 := Nat.div_add_mod c d
  have m1 := Nat.mod_lt a hb
  have m2 := Nat.mod_lt c hd
  generalize a / b = x at *
  generalize c / d = y at *
  by_cases hxy : x < y
  · rw [decide_eq_true hxy, lower_iff]
    have : a < y * b := by
      have : (x+1) * b ≤ y * b := Nat.mul_le_mul_right _ hxy
      rw [Nat.succ_mul, Nat.mul_comm x b] at this; omega
    have h3 : a * d < y * b * d := Nat.mul_lt_mul_of_pos_right this hd
    have h4 : y * b * d ≤ c * b := by
      rw [show y * b * d = (d * y) * b by ac_rfl]; exact Nat.mul_le_mul_right _ (by omega)
    omega
  · rw [decide_eq_false hxy, lower_no]
    have : c < x * d := by
      have : (y+1) * d ≤ x * d := Nat.mul_le_mul_right _ (by omega)
      rw [Nat.succ_mul, Nat.mul_comm y d] at this; omega
    have h3 : c * b < x * d * b := Nat.mul_lt_mul_of_pos_right this hb
    have h4 : x * d * b ≤ a * d := by
      rw [show x * d * b = (b * x) * d by ac_rfl]; exact Nat.mul_le_mul_right _ (by omega)
    omega
theorem lower_rests {a b c d : Nat} (h : a / b = c / d) : lower a b c d = lower d (c % d) b (a % b) := by
  have h1 := Nat.div_add_mod a b
  have h2 := Nat.div_add_mod c d
  rw [← h] at h2
  generalize a / b = x at *
  generalize a % b = p at *
  generalize c % d = q at *
  unfold lower
  rw [← h1, ← h2, Nat.add_mul, Nat.add_mul, show b * x * d = d * x * b by ac_rfl, Nat.mul_comm d p, Nat.mul_comm b q]
  simp
theorem lower_end {a b c d : Nat} (h : a / b = c / d) (hb : 0 < b) (h0 : a % b = 0 ∨ c % d = 0) : lower a b c d = (decide (a % b = 0) && decide (0 < c % d)) := by
  rw [lower_rests h]
  unfold lower
  rcases h0 with h0 | h0
  · rw [h0]; simp; by_cases hq : 0 < c % d
    · simp [hq, Nat.mul_pos hb hq]
    · have : c % d = 0 := by omega
      simp [this]
  · rw [h0]; simp

theorem low_rises_le (L S k : Nat) (h : k ≤ S) (hS : S ≤ L) (u d : Nat) : low L u S k * tot L (u+d) S ≤ low L (u+d) S k * tot L u S := by
  induction d with
  | zero => exact Nat.le_refl _
  | succ d ih =>
    have h1 := low_rises L (u+d) S k h
    have hp := tot_pos L (u+d) S hS
    refine Nat.le_of_mul_le_mul_left ?_ hp
    rw [← Nat.add_assoc]
    calc tot L (u+d) S * (low L u S k * tot L (u+d+1) S) = (low L u S k * tot L (u+d) S) * tot L (u+d+1) S := by ac_rfl
      _ ≤ (low L (u+d) S k * tot L u S) * tot L (u+d+1) S := Nat.mul_le_mul_right _ ih
      _ = (low L (u+d) S k * tot L (u+d+1) S) * tot L u S := by ac_rfl
      _ ≤ (low L (u+d+1) S k * tot L (u+d) S) * tot L u S := Nat.mul_le_mul_right _ h1
      _ = _ := by ac_rfl
theorem up_falls_le (L S k : Nat) (h : k ≤ S) (hS : S ≤ L) (u d : Nat) : up L (u+d) S k * tot L u S ≤ up L u S k * tot L (u+d) S := by
  induction d with
  | zero => exact Nat.le_refl _
  | succ d ih =>
    have h1 := up_falls L (u+d) S k h
    have hp := tot_pos L (u+d) S hS
    refine Nat.le_of_mul_le_mul_left ?_ hp
    rw [← Nat.add_assoc]
    calc tot L (u+d) S * (up L (u+d+1) S k * tot L u S) = (up L (u+d+1) S k * tot L (u+d) S) * tot L u S := by ac_rfl
      _ ≤ (up L (u+d) S k * tot L (u+d+1) S) * tot L u S := Nat.mul_le_mul_right _ h1
      _ = (up L (u+d) S k * tot L u S) * tot L (u+d+1) S := by ac_rfl
      _ ≤ (up L u S k * tot L (u+d) S) * tot L (u+d+1) S := Nat.mul_le_mul_right _ ih
      _ = _ := by ac_rfl

/-- is u excluded by the level n/d? -/
def excl (L S k : Nat) (n d u : Nat) : Bool := lower (low L u S k) (tot L u S) n d || lower (up L u S k) (tot L u S) n d
/-- between two numbers that are not excluded none is -/
theorem excl_between {L S k n d u v x : Nat} (h : k ≤ S) (hS : S ≤ L) (h1 : u ≤ x) (h2 : x ≤ v) (hu : excl L S k n d u = false) (hv : excl L S k n d v = false) : excl L S k n d x = false := by
  unfold excl at *
  rw [Bool.or_eq_false_iff, lower_no, lower_no] at *
  obtain ⟨e, rfl⟩ : ∃ e, x = u + e := ⟨x - u, by omega⟩
  obtain ⟨g, rfl⟩ : ∃ g, v = u + e + g := ⟨v - (u+e), by omega⟩
  constructor
  · -- lower tail: rises from u
    have hr := low_rises_le L S k h hS u e
    have hp := tot_pos L u S hS
    refine Nat.le_of_mul_le_mul_left ?_ hp
    calc tot L u S * (n * tot L (u+e) S) = (n * tot L u S) * tot L (u+e) S := by ac_rfl
      _ ≤ (low L u S k * d) * tot L (u+e) S := Nat.mul_le_mul_right _ hu.1
      _ = (low L u S k * tot L (u+e) S) * d := by ac_rfl
      _ ≤ (low L (u+e) S k * tot L u S) * d := Nat.mul_le_mul_right _ hr
      _ = _ := by ac_rfl
  · have hr := up_falls_le L S k h hS (u+e) g
    have hp := tot_pos L (u+e+g) S hS
    refine Nat.le_of_mul_le_mul_left ?_ hp
    calc tot L (u+e+g) S * (n * tot L (u+e) S) = (n * tot L (u+e+g) S) * tot L (u+e) S := by ac_rfl
      _ ≤ (up L (u+e+g) S k * d) * tot L (u+e) S := Nat.mul_le_mul_right _ hv.2
      _ = (up L (u+e+g) S k * tot L (u+e) S) * d := by ac_rfl
      _ ≤ (up L (u+e) S k * tot L (u+e+g) S) * d := Nat.mul_le_mul_right _ hr
      _ = _ := by ac_rfl

/-- the chance to be excluded is at most twice the level: the sum over the k by which u is excluded -/
theorem sm_low_part (L u S n d : Nat) : ∀ m, m ≤ S + 1 → d * sm (fun k => if lower (low L u S k) (tot L u S) n d then sets L u S k else 0) 0 m ≤ n * tot L u S := by
  -- where low m-1 is below the level all before are, too: the sum is low (m-1); where it is not, the last term is 0
  intro m
  induction m with
  | zero => intro _; simp [sm]
  | succ m ih =>
    intro hm
    rw [sm_succ, Nat.zero_add]
    by_cases hl : lower (low L u S m) (tot L u S) n d = true
    · rw [if_pos hl]
      have : sm (fun k => if lower (low L u S k) (tot L u S) n d then sets L u S k else 0) 0 m ≤ sm (sets L u S) 0 m := by
        refine sm_le fun i _ _ => ?_
        split <;> omega
      have h2 : sm (sets L u S) 0 m + sets L u S m = low L u S m := by unfold low; rw [sm_succ, Nat.zero_add]
      rw [lower_iff, Nat.mul_comm] at hl
      exact Nat.le_of_lt (Nat.lt_of_le_of_lt (Nat.mul_le_mul_left d (by omega)) hl)
    · rw [if_neg hl]; exact ih (by omega)
theorem sm_up_part (L u S n d : Nat) : ∀ m, m ≤ S + 1 → d * sm (fun k => if lower (up L u S k) (tot L u S) n d then sets L u S k else 0) (S+1-m) m ≤ n * tot L u S := by
  intro m
  induction m with
  | zero => intro _; simp [sm]
  | succ m ih =>
    intro hm
    rw [sm_first, show S + 1 - (m+1) + 1 = S + 1 - m by omega]
    generalize hk : S + 1 - (m+1) = k at *
    by_cases hl : lower (up L u S k) (tot L u S) n d = true
    · rw [if_pos hl]
      have : sm (fun k => if lower (up L u S k) (tot L u S) n d then sets L u S k else 0) (S+1-m) m ≤ sm (sets L u S) (S+1-m) m := by
        refine sm_le fun i _ _ => ?_
        split <;> omega
      have h2 : sets L u S k + sm (sets L u S) (S+1-m) m = up L u S k := by
        unfold up; rw [show S + 1 - k = m + 1 by omega, sm_first, show k + 1 = S + 1 - m by omega]
      rw [lower_iff, Nat.mul_comm] at hl
      exact Nat.le_of_lt (Nat.lt_of_le_of_lt (Nat.mul_le_mul_left d (by omega)) hl)
    · rw [if_neg hl, Nat.zero_add]; exact ih (by omega)
/-- the sum over the k by which u is not excluded -/
theorem covered (L u S n d : Nat) : d * tot L u S ≤ d * sm (fun k => if excl L S k n d u then 0 else sets L u S k) 0 (S+1) + 2 * (n * tot L u S) := by
  have h1 := sm_low_part L u S n d (S+1) (Nat.le_refl _)
  have h2 := sm_up_part L u S n d (S+1) (Nat.le_refl _)
  rw [Nat.sub_self] at h2
  have h3 : tot L u S ≤ sm (fun k => if excl L S k n d u then 0 else sets L u S k) 0 (S+1) + (sm (fun k => if lower (low L u S k) (tot L u S) n d then sets L u S k else 0) 0 (S+1) + sm (fun k => if lower (up L u S k) (tot L u S) n d then sets L u S k else 0) 0 (S+1)) := by
    refine Nat.le_trans (Nat.le_of_eq (low_full L u S).symm) ?_
    rw [← sm_plus, ← sm_plus]
    refine sm_le fun i _ _ => ?_
    unfold excl
    cases lower (low L u S i) (tot L u S) n d <;> cases lower (up L u S i) (tot L u S) n d <;> simp
  have h4 := Nat.mul_le_mul_left d h3
  rw [Nat.mul_add, Nat.mul_add] at h4
  omega
/-! ### the likely numbers: one pass, and all pairs -/
def scan (num den : Nat → Nat) : Nat → (Nat × Nat) × List Nat
  | 0 => ((0, 1), [])
  | n+1 =>
    let s := scan num den n
    let b := if lower s.1.1 s.1.2 (num n) (den n) then (num n, den n) else s.1
    let o := if lower s.1.1 s.1.2 (num n) (den n) then [] else s.2
    (b, if decide (0 < num n) && !lower (num n) (den n) b.1 b.2 then o ++ [n] else o)
theorem lower_trans_le {a b c d e f : Nat} (hd : 0 < d) (h1 : lower a b c d = false) (h2 : lower c d e f = false) : lower a b e f = false := by
  rw [lower_no] at *
  refine Nat.le_of_mul_le_mul_left ?_ hd
  calc d * (e * b) = (e * d) * b := by ac_rfl
    _ ≤ (c * f) * b := Nat.mul_le_mul_right _ h2
    _ = (c * b) * f := by ac_rfl
    _ ≤ (a * d) * f := Nat.mul_le_mul_right _ h1
    _ = _ := by ac_rfl
theorem lower_total {a b c d : Nat} (h : lower a b c d = true) : lower c d a b = false := by
  rw [lower_no]; rw [lower_iff] at h; omega
theorem lower_self (a b : Nat) : lower a b a b = false := by rw [lower_no]; exact Nat.le_refl _
/-- e/f is at least c/d, which is above a/b -/
theorem lower_lt_trans {a b c d e f : Nat} (hb : 0 < b) (h1 : lower e f c d = true) (h2 : lower e f a b = false) : lower a b c d = true := by
  cases h : lower a b c d with
  | true => rfl
  | false => rw [lower_trans_le hb h2 h] at h1; cases h1
theorem scan_inv (num den : Nat → Nat) (hden : ∀ u, 0 < den u) : ∀ n, 0 < (scan num den n).1.2 ∧ (∀ u, u < n → lower (scan num den n).1.1 (scan num den n).1.2 (num u) (den u) = false) ∧
    ((scan num den n).1 = (0, 1) ∨ ∃ u, u < n ∧ (scan num den n).1 = (num u, den u)) ∧
    (scan num den n).2 = (List.range n).filter fun u => decide (0 < num u) && !lower (num u) (den u) (scan num den n).1.1 (scan num den n).1.2
  | 0 => ⟨by simp [scan], fun u h => by omega, .inl rfl, by simp [scan]⟩
  | n+1 => by
    obtain ⟨h1, h2, h3, h4⟩ := scan_inv num den hden n
    have e : scan num den (n+1) = (if lower (scan num den n).1.1 (scan num den n).1.2 (num n) (den n) then (num n, den n) else (scan num den n).1,
      if decide (0 < num n) && !lower (num n) (den n) (if lower (scan num den n).1.1 (scan num den n).1.2 (num n) (den n) then (num n, den n) else (scan num den n).1).1 (if lower (scan num den n).1.1 (scan num den n).1.2 (num n) (den n) then (num n, den n) else (scan num den n).1).2
      then (if lower (scan num den n).1.1 (scan num den n).1.2 (num n) (den n) then [] else (scan num den n).2) ++ [n] else (if lower (scan num den n).1.1 (scan num den n).1.2 (num n) (den n) then [] else (scan num den n).2)) := rfl
    rw [e]
    generalize scan num den n = s at *
    clear e
    by_cases hl : lower s.1.1 s.1.2 (num n) (den n) = true
    · simp only [hl, if_true]
      have hp : 0 < num n := by
        rw [lower_iff] at hl
        rcases Nat.eq_zero_or_pos (num n) with h | h
        · rw [h] at hl; simp at hl
        · exact h
      refine ⟨hden n, fun u hu => ?_, .inr ⟨n, by omega, rfl⟩, ?_⟩
      · by_cases hun : u = n
        · subst hun; exact lower_self _ _
        · exact lower_total (lower_lt_trans (hden u) hl (h2 u (by omega)))
      · simp only [lower_self, hp, decide_true, Bool.not_false, Bool.and_self, if_true, List.nil_append]
        rw [List.range_succ, List.filter_append, List.filter_eq_nil_iff.2]
        · simp [lower_self, hp]
        · intro u hu
          have := lower_lt_trans (hden u) hl (h2 u (by simpa using hu))
          simp [this]
    · have hl' : lower s.1.1 s.1.2 (num n) (den n) = false := by simpa using hl
      simp only [hl', Bool.false_eq_true, if_false]
      refine ⟨h1, fun u hu => ?_, ?_, ?_⟩
      · by_cases hun : u = n
        · subst hun; exact hl'
        · exact h2 u (by omega)
      · rcases h3 with h3 | ⟨u, hu, h3⟩
        · exact .inl h3
        · exact .inr ⟨u, by omega, h3⟩
      · rw [List.range_succ, List.filter_append, ← h4]
        split
        · rename_i h; simp [h]
        · rename_i h; simp [h]
def likely (num den : Nat → Nat) (n u : Nat) : Bool := decide (0 < num u) && (List.range n).all fun o => !lower (num u) (den u) (num o) (den o)
theorem scan_likely (num den : Nat → Nat) (hden : ∀ u, 0 < den u) (n : Nat) : (scan num den n).2 = (List.range n).filter (likely num den n) := by
  obtain ⟨h1, h2, h3, h4⟩ := scan_inv num den hden n
  rw [h4]
  refine List.filter_congr fun u hu => ?_
  unfold likely
  by_cases hp : 0 < num u
  · simp only [hp, decide_true, Bool.true_and]
    rw [Bool.eq_iff_iff]
    simp only [Bool.not_eq_true', List.all_eq_true, List.mem_range]
    constructor
    · intro h o ho
      exact lower_trans_le h1 h (h2 o ho)
    · intro h
      rcases h3 with h3 | ⟨o, ho, h3⟩
      · rw [h3]; rw [lower_no]; simp
      · rw [h3]; exact h o ho
  · simp [hp]

/-! ### the first and the last number that p holds of -/
def rng (p : Nat → Bool) : Nat → Option (Nat × Nat)
  | 0 => none
  | n+1 => if p n then some (match rng p n with | none => n | some r => r.1, n) else rng p n
theorem rng_none (p : Nat → Bool) : ∀ n, rng p n = none ↔ ∀ u, u < n → p u = false
  | 0 => by simp [rng]
  | n+1 => by
    rw [rng]
    split
    · rename_i h
      simp only [reduceCtorEq, false_iff]
      intro hh; rw [hh n (by omega)] at h; cases h
    · rename_i h
      rw [rng_none p n]
      constructor
      · intro hh u hu
        by_cases e : u = n
        · subst e; simpa using h
        · exact hh u (by omega)
      · intro hh u hu; exact hh u (by omega)
theorem rng_some (p : Nat → Bool) : ∀ n l h, rng p n = some (l, h) → p l = true ∧ p h = true ∧ l ≤ h ∧ h < n ∧ ∀ u, u < n → p u = true → l ≤ u ∧ u ≤ h
  | 0, _, _, e => by simp [rng] at e
  | n+1, l, h, e => by
    rw [rng] at e
    split at e
    · rename_i hp
      cases hr : rng p n with
      | none =>
        rw [hr] at e
        simp only [Option.some.injEq, Prod.mk.injEq] at e
        obtain ⟨rfl, rfl⟩ := e
        refine ⟨hp, hp, Nat.le_refl _, by omega, fun u hu hpu => ?_⟩
        have := (rng_none p n).1 hr
        by_cases e : u = n
        · omega
        · rw [this u (by omega)] at hpu; cases hpu
      | some r =>
        obtain ⟨l', h'⟩ := r
        rw [hr] at e
        simp only [Option.some.injEq, Prod.mk.injEq] at e
        obtain ⟨rfl, rfl⟩ := e
        obtain ⟨a, b, c, d, f⟩ := rng_some p n _ _ hr
        refine ⟨a, hp, by omega, by omega, fun u hu hpu => ?_⟩
        by_cases e : u = n
        · omega
        · have := f u (by omega) hpu; omega
    · rename_i hp
      obtain ⟨a, b, c, d, f⟩ := rng_some p n _ _ e
      refine ⟨a, b, c, by omega, fun u hu hpu => ?_⟩
      by_cases e : u = n
      · subst e; exact absurd hpu hp
      · exact f u (by omega) hpu
theorem rng_eq {p : Nat → Bool} {n l h : Nat} (h1 : p l = true) (h2 : p h = true) (h3 : l < n) (h4 : h < n) (h5 : ∀ u, u < n → p u = true → l ≤ u ∧ u ≤ h) : rng p n = some (l, h) := by
  cases hr : rng p n with
  | none => rw [(rng_none p n).1 hr l h3] at h1; cases h1
  | some r =>
    obtain ⟨a, b⟩ := r
    obtain ⟨q1, q2, q3, q4, q5⟩ := rng_some p n _ _ hr
    have := h5 a (by omega) q1; have := h5 b q4 q2; have := q5 l h3 h1; have := q5 h h4 h2
    simp; omega

/-! ### the first number that p holds of -/
def first (p : Nat → Bool) : Nat → Nat → Option Nat
  | _, 0 => none
  | a, n+1 => if p a then some a else first p (a+1) n
theorem first_none (p : Nat → Bool) : ∀ n a, first p a n = none ↔ ∀ u, a ≤ u → u < a + n → p u = false
  | 0, a => by simp only [first, true_iff]; intro u h1 h2; omega
  | n+1, a => by
    rw [first]
    split
    · rename_i h
      simp only [reduceCtorEq, false_iff]; intro hh; rw [hh a (by omega) (by omega)] at h; cases h
    · rename_i h
      rw [first_none p n (a+1)]
      constructor
      · intro hh u h1 h2
        by_cases e : u = a
        · subst e; simpa using h
        · exact hh u (by omega) (by omega)
      · intro hh u h1 h2; exact hh u (by omega) (by omega)
theorem first_some (p : Nat → Bool) : ∀ n a x, first p a n = some x ↔ (a ≤ x ∧ x < a + n ∧ p x = true ∧ ∀ u, a ≤ u → u < x → p u = false)
  | 0, a, x => by simp only [first, reduceCtorEq, false_iff]; omega
  | n+1, a, x => by
    rw [first]
    split
    · rename_i h
      simp only [Option.some.injEq]
      constructor
      · rintro rfl; exact ⟨Nat.le_refl _, by omega, h, fun u h1 h2 => by omega⟩
      · rintro ⟨h1, _, _, h4⟩
        by_cases e : a = x
        · exact e
        · rw [h4 a (Nat.le_refl _) (by omega)] at h; cases h
    · rename_i h
      rw [first_some p n (a+1) x]
      constructor
      · rintro ⟨h1, h2, h3, h4⟩
        refine ⟨by omega, by omega, h3, fun u g1 g2 => ?_⟩
        by_cases e : u = a
        · subst e; simpa using h
        · exact h4 u (by omega) g2
      · rintro ⟨h1, h2, h3, h4⟩
        have : a ≠ x := fun e => by subst e; exact h h3
        exact ⟨by omega, by omega, h3, fun u g1 g2 => h4 u (by omega) g2⟩

/-! ### lots -/
theorem cons_erase_perm : ∀ (l : List Nat) (i : Nat) (h : i < l.length), (l[i] :: l.eraseIdx i).Perm l
  | x :: l, 0, _ => by simp
  | x :: l, i+1, h => by
    have ih := cons_erase_perm l i (by simpa using h)
    simp only [List.getElem_cons_succ, List.eraseIdx_cons_succ]
    exact (List.Perm.swap _ _ _).trans (ih.cons x)
/-- who is left, and who is drawn, after j lots -/
def dl (n : Nat) (lots : List Nat) : Nat → List Nat × List Nat
  | 0 => (List.range n, [])
  | j+1 =>
    let s := dl n lots j
    let i := lots.getD j 0 % s.1.length
    (s.1.eraseIdx i, s.2 ++ [s.1.getD i 0])
theorem dl_len (n : Nat) (lots : List Nat) : ∀ j, j ≤ n → (dl n lots j).1.length = n - j ∧ (dl n lots j).2.length = j
  | 0, _ => by simp [dl]
  | j+1, h => by
    obtain ⟨h1, h2⟩ := dl_len n lots j (by omega)
    have hlt : lots.getD j 0 % (dl n lots j).1.length < (dl n lots j).1.length := Nat.mod_lt _ (by omega)
    constructor
    · simp only [dl]; rw [List.length_eraseIdx_of_lt hlt]; omega
    · simp only [dl]; simp; omega
theorem dl_perm (n : Nat) (lots : List Nat) : ∀ j, j ≤ n → ((dl n lots j).2 ++ (dl n lots j).1).Perm (List.range n)
  | 0, _ => by simp [dl]
  | j+1, h => by
    have h1 := (dl_len n lots j (by omega)).1
    have ih := dl_perm n lots j (by omega)
    have hlt : lots.getD j 0 % (dl n lots j).1.length < (dl n lots j).1.length := Nat.mod_lt _ (by omega)
    simp only [dl]
    refine List.Perm.trans ?_ ih
    rw [List.append_assoc]
    refine List.Perm.append_left _ ?_
    have e : (dl n lots j).1.getD (lots.getD j 0 % (dl n lots j).1.length) 0 = (dl n lots j).1[lots.getD j 0 % (dl n lots j).1.length] := by
      rw [List.getD_eq_getElem?_getD, List.getElem?_eq_getElem hlt]; rfl
    rw [e, List.singleton_append]
    exact cons_erase_perm _ _ hlt
theorem dl_sub (n : Nat) (lots : List Nat) : ∀ j, (dl n lots j).1.Sublist (List.range n)
  | 0 => List.Sublist.refl _
  | j+1 => (List.eraseIdx_sublist _ _).trans (dl_sub n lots j)
/-- a sorted list without repetition is the filter of the range by its members -/
theorem sub_range_eq {l : List Nat} {n : Nat} (h : l.Sublist (List.range n)) : l = (List.range n).filter fun x => decide (x ∈ l) := by
  have hp : l.Perm ((List.range n).filter fun x => decide (x ∈ l)) := by
    refine (List.perm_ext_iff_of_nodup (h.nodup List.nodup_range) (List.filter_sublist.nodup List.nodup_range)).2 fun x => ?_
    simp only [List.mem_filter, List.mem_range, decide_eq_true_eq]
    exact ⟨fun hx => ⟨List.mem_range.1 (h.subset hx), hx⟩, fun hx => hx.2⟩
  refine hp.eq_of_pairwise (le := (· < ·)) (fun a b _ _ h1 h2 => by omega) ?_ ?_
  · exact List.pairwise_lt_range.sublist h
  · exact List.pairwise_lt_range.sublist List.filter_sublist
theorem dl_left (n : Nat) (lots : List Nat) (j : Nat) (h : j ≤ n) : (dl n lots j).1 = (List.range n).filter fun x => !decide (x ∈ (dl n lots j).2) := by
  have e := sub_range_eq (dl_sub n lots j)
  refine e.trans (List.filter_congr fun x hx => ?_)
  have hp := dl_perm n lots j h
  have hn : ((dl n lots j).2 ++ (dl n lots j).1).Nodup := hp.nodup_iff.2 List.nodup_range
  have hd := (List.nodup_append.1 hn).2.2
  have hm := hp.mem_iff (a := x)
  rw [List.mem_append] at hm
  by_cases h2 : x ∈ (dl n lots j).2
  · have : x ∉ (dl n lots j).1 := fun h1 => hd _ h2 _ h1 rfl
    simp [h2, this]
  · have : x ∈ (dl n lots j).1 := (hm.2 hx).resolve_left h2
    simp [h2, this]
/-- the drawn ones, sorted -/
def drawn (n : Nat) (lots : List Nat) : List Nat := (List.range n).filter fun x => decide (x ∈ (dl n lots lots.length).2)
theorem drawn_perm (n : Nat) (lots : List Nat) (h : lots.length ≤ n) : (dl n lots lots.length).2.Perm (drawn n lots) := by
  have hp := dl_perm n lots lots.length h
  have hn : ((dl n lots lots.length).2 ++ (dl n lots lots.length).1).Nodup := hp.nodup_iff.2 List.nodup_range
  refine (List.perm_ext_iff_of_nodup (List.nodup_append.1 hn).1 (List.filter_sublist.nodup List.nodup_range)).2 fun x => ?_
  simp only [List.mem_filter, List.mem_range, decide_eq_true_eq]
  exact ⟨fun hx => ⟨List.mem_range.1 (hp.mem_iff.1 (List.mem_append_left _ hx)), hx⟩, fun hx => hx.2⟩
theorem drawn_sorted (n : Nat) (lots : List Nat) : (drawn n lots).Pairwise (· < ·) := List.pairwise_lt_range.sublist List.filter_sublist
/-- a sorted list that is a permutation of the drawn ones is 'drawn' -/
theorem drawn_eq {n : Nat} {lots l : List Nat} (h : lots.length ≤ n) (hp : (dl n lots lots.length).2.Perm l) (hs : l.Pairwise (· ≤ ·)) : l = drawn n lots := by
  refine (hp.symm.trans (drawn_perm n lots h)).eq_of_pairwise (le := (· ≤ ·)) (fun a b _ _ h1 h2 => by omega) hs ((drawn_sorted n lots).imp fun h => Nat.le_of_lt h)
end Mis
