/- Plain number theory: primes, Fermat's little theorem, and a certificate by which a number is shown prime. -/
namespace Go.Proofs.Ytijeackkgcnbgaa.Prime
def Pr (p : Nat) : Prop := 1 < p ∧ ∀ d, d ∣ p → d = 1 ∨ d = p

theorem exists_prime (n : Nat) (h : 1 < n) : ∃ p, Pr p ∧ p ∣ n := by
  induction n using Nat.strongRecOn with
  | ind n ih =>
    by_cases hp : Pr n
    · exact ⟨n, hp, Nat.dvd_refl n⟩
    · have : ∃ d, d ∣ n ∧ d ≠ 1 ∧ d ≠ n := Classical.byContradiction fun hc => hp ⟨h, fun d hd => Classical.byContradiction fun h2 => hc ⟨d, hd, fun e => h2 (.inl e), fun e => h2 (.inr e)⟩⟩
      obtain ⟨d, hd, h1, h2⟩ := this
      have hle : d ≤ n := Nat.le_of_dvd (by omega) hd
      have h0 : d ≠ 0 := fun e => by subst e; rw [Nat.zero_dvd] at hd; omega
      obtain ⟨p, hp, hpd⟩ := ih d (by omega) (by omega)
      exact ⟨p, hp, Nat.dvd_trans hpd hd⟩

theorem Pr.coprime {p a : Nat} (hp : Pr p) (h : ¬ p ∣ a) : Nat.Coprime p a := by
  rcases hp.2 (Nat.gcd p a) (Nat.gcd_dvd_left p a) with h1 | h1
  · exact h1
  · exact absurd (h1 ▸ Nat.gcd_dvd_right p a) h

theorem Pr.dvd_mul {p a b : Nat} (hp : Pr p) (h : p ∣ a * b) : p ∣ a ∨ p ∣ b := by
  by_cases ha : p ∣ a
  · exact .inl ha
  · exact .inr ((hp.coprime ha).dvd_of_dvd_mul_left h)

theorem perm_of (l1 : List Nat) : ∀ l2 : List Nat, l1.Nodup → (∀ x ∈ l1, x ∈ l2) → l2.length ≤ l1.length → l1.Perm l2 := by
  induction l1 with
  | nil => intro l2 _ _ hl; cases l2 with
    | nil => exact .nil
    | cons => simp at hl
  | cons x t ih =>
    intro l2 hn hs hl
    have hx : x ∈ l2 := hs x (List.mem_cons_self ..)
    have hp := List.perm_cons_erase hx
    rw [List.nodup_cons] at hn
    refine (List.Perm.cons x (ih (l2.erase x) hn.2 (fun y hy => ?_) ?_)).trans hp.symm
    · have hne : y ≠ x := fun e => hn.1 (e ▸ hy)
      exact (List.mem_erase_of_ne hne).2 (hs y (List.mem_cons_of_mem _ hy))
    · have := List.length_erase_of_mem hx
      simp only [List.length_cons] at hl
      omega

def prod : List Nat → Nat
  | [] => 1
  | x :: r => x * prod r
theorem prod_perm {l m : List Nat} (h : l.Perm m) : prod l = prod m := by
  induction h with
  | nil => rfl
  | cons x _ ih => simp [prod, ih]
  | swap x y l => simp only [prod]; rw [Nat.mul_left_comm]
  | trans _ _ h1 h2 => exact h1.trans h2
theorem prod_not_dvd {p : Nat} (hp : Pr p) (l : List Nat) (h : ∀ x ∈ l, ¬ p ∣ x) : ¬ p ∣ prod l := by
  induction l with
  | nil => intro hd; have := Nat.le_of_dvd (by decide) hd; have := hp.1; simp [prod] at *; omega
  | cons x r ih =>
    intro hd
    rcases hp.dvd_mul hd with h1 | h1
    · exact h x (List.mem_cons_self ..) h1
    · exact ih (fun y hy => h y (List.mem_cons_of_mem _ hy)) h1
theorem prod_map (a p : Nat) (l : List Nat) : prod (l.map fun i => a * i % p) % p = a ^ l.length * prod l % p := by
  induction l with
  | nil => simp [prod]
  | cons x r ih =>
    simp only [List.map_cons, prod, List.length_cons]
    rw [Nat.mul_mod, ih, Nat.mod_mod, ← Nat.mul_mod]
    congr 1
    rw [Nat.pow_succ]
    simp only [Nat.mul_comm, Nat.mul_left_comm, Nat.mul_assoc]

/-- what is alike modulo p, when a factor that p does not divide is taken off -/
theorem cancel {p a b c : Nat} (hp : Pr p) (hc : ¬ p ∣ c) (h : a * c % p = b * c % p) : a % p = b % p := by
  have hcp := hp.coprime hc
  have key : ∀ a b : Nat, a ≤ b → a * c % p = b * c % p → a % p = b % p := by
    intro a b hle h
    have hd : p ∣ (b - a) * c := by
      rw [Nat.sub_mul]
      exact Nat.dvd_of_mod_eq_zero (Nat.sub_mod_eq_zero_of_mod_eq h.symm)
    have hd2 : p ∣ b - a := by
      rw [Nat.mul_comm] at hd
      exact hcp.dvd_of_dvd_mul_left hd
    obtain ⟨k, hk⟩ := hd2
    have e : b = a + p * k := by omega
    rw [e, Nat.add_mul_mod_self_left]
  rcases Nat.le_total a b with hle | hle
  · exact key a b hle h
  · exact (key b a hle h.symm).symm

theorem fermat {p a : Nat} (hp : Pr p) (ha : ¬ p ∣ a) : a ^ (p - 1) % p = 1 := by
  have h1 := hp.1
  have hperm : ((List.range' 1 (p - 1)).map fun i => a * i % p).Perm (List.range' 1 (p - 1)) := by
    refine perm_of _ _ ?_ ?_ (by simp)
    · rw [List.Nodup, List.pairwise_map]
      refine (List.nodup_range' (s := 1) (n := p - 1)).imp_of_mem (fun {x y} hx hy hne he => hne ?_)
      rw [List.mem_range'_1] at hx hy
      rw [Nat.mul_comm a x, Nat.mul_comm a y] at he
      have := cancel hp ha he
      rwa [Nat.mod_eq_of_lt (by omega), Nat.mod_eq_of_lt (by omega)] at this
    · intro x hx
      obtain ⟨i, hi, rfl⟩ := List.mem_map.1 hx
      rw [List.mem_range'_1] at hi ⊢
      have hlt := Nat.mod_lt (a * i) (show 0 < p by omega)
      have hne : a * i % p ≠ 0 := by
        intro e
        rcases hp.dvd_mul (Nat.dvd_of_mod_eq_zero e) with h | h
        · exact ha h
        · exact absurd (Nat.le_of_dvd (by omega) h) (by omega)
      omega
  have hnd : ¬ p ∣ prod (List.range' 1 (p - 1)) := prod_not_dvd hp _ (fun x hx hd => by
    rw [List.mem_range'_1] at hx
    exact absurd (Nat.le_of_dvd (by omega) hd) (by omega))
  have h2 := prod_map a p (List.range' 1 (p - 1))
  rw [prod_perm hperm, List.length_range'] at h2
  have h3 := cancel hp hnd (a := 1) (b := a ^ (p - 1)) (by rw [Nat.one_mul]; exact h2)
  rw [← h3]
  exact Nat.mod_eq_of_lt h1

theorem pow_mod_one {b r m : Nat} (hr : 1 < r) (h : b ^ m % r = 1) (k : Nat) : b ^ (m * k) % r = 1 := by
  rw [Nat.pow_mul, Nat.pow_mod, h, Nat.one_pow, Nat.mod_eq_of_lt hr]
theorem pow_gcd {b r : Nat} (hr : 1 < r) (m n : Nat) : b ^ m % r = 1 → b ^ n % r = 1 → b ^ Nat.gcd m n % r = 1 := by
  induction m, n using Nat.gcd.induction with
  | H0 n => intro _ h; simpa using h
  | H1 m n hm ih =>
    intro h1 h2
    rw [Nat.gcd_rec]
    refine ih ?_ h1
    have e : n = m * (n / m) + n % m := (Nat.div_add_mod n m).symm
    rw [e, Nat.pow_add, Nat.mul_mod, pow_mod_one hr h1, Nat.one_mul, Nat.mod_mod] at h2
    exact h2

theorem pock {n q a : Nat} (hn : 1 < n) (hq : Pr q) (hd : q ∣ n - 1) (h1 : a ^ (n - 1) % n = 1) (hg : Nat.gcd (a ^ ((n - 1) / q) % n + (n - 1)) n = 1) {r : Nat} (hr : Pr r) (hrn : r ∣ n) : q ∣ r - 1 := by
  have hmod : ∀ x y : Nat, x % n = y % n → x % r = y % r := fun x y h => by
    rw [← Nat.mod_mod_of_dvd x hrn, h, Nat.mod_mod_of_dvd y hrn]
  have hr1 := hr.1
  have hb : (a ^ ((n - 1) / q)) ^ q % r = 1 := by
    rw [← Nat.pow_mul, Nat.div_mul_cancel hd]
    have := hmod (a ^ (n - 1)) 1 (by rw [h1, Nat.mod_eq_of_lt hn])
    rwa [Nat.mod_eq_of_lt hr1] at this
  have hne : a ^ ((n - 1) / q) % r ≠ 1 := by
    intro h
    have hdv : r ∣ a ^ ((n - 1) / q) % n + (n - 1) := by
      apply Nat.dvd_of_mod_eq_zero
      have e : (a ^ ((n - 1) / q) % n + (n - 1)) % r = (1 + (n - 1)) % r := by
        rw [Nat.add_mod, Nat.mod_mod_of_dvd _ hrn, h, Nat.add_mod_mod]
      rw [e, show 1 + (n - 1) = n by omega]
      exact Nat.mod_eq_zero_of_dvd hrn
    have := Nat.dvd_gcd hdv hrn
    rw [hg] at this
    have := Nat.le_of_dvd (by decide) this
    omega
  have hnd : ¬ r ∣ a ^ ((n - 1) / q) := by
    intro h
    have h2 : r ∣ (a ^ ((n - 1) / q)) ^ q := by
      have hq1 := hq.1
      obtain ⟨q', hq'⟩ : ∃ q', q = q' + 1 := ⟨q - 1, by omega⟩
      generalize a ^ ((n - 1) / q) = b at h ⊢
      rw [hq', Nat.pow_succ]
      exact Nat.dvd_trans h (Nat.dvd_mul_left ..)
    rw [Nat.mod_eq_zero_of_dvd h2] at hb
    omega
  have hf := fermat hr hnd
  have hgc := pow_gcd hr1 q (r - 1) hb hf
  rcases hq.2 _ (Nat.gcd_dvd_left q (r - 1)) with h | h
  · rw [h, Nat.pow_one] at hgc; exact absurd hgc hne
  · exact h ▸ Nat.gcd_dvd_right q (r - 1)

theorem prime_of {n F : Nat} (hn : 1 < n) (hF : n < (F + 1) * (F + 1)) (h : ∀ r, Pr r → r ∣ n → F ∣ r - 1) : Pr n := by
  refine ⟨hn, fun d hd => Classical.byContradiction fun hc => ?_⟩
  have big : ∀ x, x ∣ n → x ≠ 1 → F + 1 ≤ x := by
    intro x hx h1
    have h0 : x ≠ 0 := fun e => by subst e; rw [Nat.zero_dvd] at hx; omega
    obtain ⟨r, hr, hrx⟩ := exists_prime x (by omega)
    have h2 := h r hr (Nat.dvd_trans hrx hx)
    have h3 := Nat.le_of_dvd (by have := hr.1; omega) h2
    have h4 := Nat.le_of_dvd (by omega) hrx
    have := hr.1
    omega
  obtain ⟨e, rfl⟩ := hd
  have hd1 : d ≠ 1 := fun h => hc (.inl h)
  have he1 : e ≠ 1 := fun h => hc (.inr (by rw [h, Nat.mul_one]))
  have h1 := big d (Nat.dvd_mul_right ..) hd1
  have h2 := big e (Nat.dvd_mul_left ..) he1
  exact absurd hF (Nat.not_lt.2 (Nat.mul_le_mul h1 h2))

/-- a power, modulo n, by squares -/
def pm : Nat → Nat → Nat → Nat → Nat
  | 0, _, _, n => 1 % n
  | k + 1, a, e, n => if e % 2 = 1 then a * pm k (a * a % n) (e / 2) n % n else pm k (a * a % n) (e / 2) n
theorem pm_eq (n : Nat) (k : Nat) : ∀ a e, e < 2 ^ k → pm k a e n = a ^ e % n := by
  induction k with
  | zero => intro a e h; have : e = 0 := by simpa using h
            subst this; rfl
  | succ k ih =>
    intro a e h
    have he : e / 2 < 2 ^ k := by rw [Nat.pow_succ] at h; omega
    have e2 : a ^ e = a ^ (e % 2) * (a * a) ^ (e / 2) := by
      rw [← Nat.pow_two, ← Nat.pow_mul, ← Nat.pow_add]; congr 1; omega
    rw [pm, ih _ _ he, ← Nat.pow_mod]
    by_cases c : e % 2 = 1
    · rw [if_pos c, e2, c, Nat.pow_one]
      simp [Nat.mul_mod]
    · rw [if_neg c, e2, show e % 2 = 0 by omega, Nat.pow_zero, Nat.one_mul]

/-- trial division -/
def tri : Nat → Nat → Nat → Bool
  | 0, _, _ => true
  | k + 1, d, n => if n % d = 0 then false else tri k (d + 1) n
theorem tri_spec (n k : Nat) : ∀ d, tri k d n = true → ∀ x, d ≤ x → x < d + k → ¬ x ∣ n := by
  induction k with
  | zero => intro d _ x h1 h2; omega
  | succ k ih =>
    intro d h x h1 h2 hx
    rw [tri] at h
    by_cases c : n % d = 0
    · rw [if_pos c] at h; cases h
    · rw [if_neg c] at h
      by_cases e : x = d
      · subst e; exact c (Nat.mod_eq_zero_of_dvd hx)
      · exact ih (d + 1) h x (by omega) (by omega) hx
theorem prime_tri {n : Nat} (k : Nat) (hn : 1 < n) (hk : n < (k + 2) * (k + 2)) (h : tri k 2 n = true) : Pr n := by
  refine ⟨hn, fun d hd => Classical.byContradiction fun hc => ?_⟩
  obtain ⟨e, rfl⟩ := hd
  have hd1 : d ≠ 1 := fun h => hc (.inl h)
  have he1 : e ≠ 1 := fun h => hc (.inr (by rw [h, Nat.mul_one]))
  have hd0 : d ≠ 0 := fun h => by subst h; simp at hn
  have he0 : e ≠ 0 := fun h => by subst h; simp at hn
  have key := tri_spec _ _ _ h
  have h1 : k + 2 ≤ d := Nat.le_of_not_lt fun hl => key d (by omega) (by omega) (Nat.dvd_mul_right ..)
  have h2 : k + 2 ≤ e := Nat.le_of_not_lt fun hl => key e (by omega) (by omega) (Nat.dvd_mul_left ..)
  exact absurd hk (Nat.not_lt.2 (Nat.mul_le_mul h1 h2))
end Go.Proofs.Ytijeackkgcnbgaa.Prime
