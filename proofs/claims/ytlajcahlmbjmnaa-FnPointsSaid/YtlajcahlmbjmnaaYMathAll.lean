-- Plain facts on primes and on the curve. Joined by a program of this session. Lean checks it.
namespace Go.Proofs.Ytlajcahlmbjmnaa.Prime
def Pr (p : Nat) : Prop := 1 < p ∧ ∀ d, d ∣ p → d = 1 ∨ d = p
theorem exists_prime (n : Nat) (h : 1 < n) : ∃ p, Pr p ∧ p ∣ n := by
  induction n using Nat.strongRecOn with
  | ind n ih =>
    by_cases hp : Pr n
    · exact ⟨n, hp, Nat.dvd_refl n⟩
    · have : ∃ d, d ∣ n ∧ d ≠ 1 ∧ d ≠ n := Classical.byContradiction fun hc => hp ⟨h, fun d hd => Classical.byContradiction fun h2 => hc ⟨d, hd, fun e => h2 (.inl e), fun e => h2 (.inr e)⟩⟩
      obtain ⟨d, hd, h1, h2⟩ := this
      have hle : d ≤ n := Nat.le_of_dvd (by omega) hd
      have h0 : d ≠ 0 := fun e => by subst e; rw [Nat.zero_dvd] at hd; omega
      obtain ⟨p, hp, hpd⟩ := ih d (by omega) (by omega)
      exact ⟨p, hp, Nat.dvd_trans hpd hd⟩
theorem Pr.coprime {p a : Nat} (hp : Pr p) (h : ¬ p ∣ a) : Nat.Coprime p a := by
  rcases hp.2 (Nat.gcd p a) (Nat.gcd_dvd_left p a) with h1 | h1
  · exact h1
  · exact absurd (h1 ▸ Nat.gcd_dvd_right p a) h
theorem Pr.dvd_mul {p a b : Nat} (hp : Pr p) (h : p ∣ a * b) : p ∣ a ∨ p ∣ b := by
  by_cases ha : p ∣ a
  · exact .inl ha
  · exact .inr ((hp.coprime ha).dvd_of_dvd_mul_left h)
theorem perm_of (l1 : List Nat) : ∀ l2 : List Nat, l1.Nodup → (∀ x ∈ l1, x ∈ l2) → l2.length ≤ l1.length → l1.Perm l2 := by
  induction l1 with
  | nil => intro l2 _ _ hl; cases l2 with
    | nil => exact .nil
    | cons => simp at hl
  | cons x t ih =>
    intro l2 hn hs hl
    have hx : x ∈ l2 := hs x (List.mem_cons_self ..)
    have hp := List.perm_cons_erase hx
    rw [List.nodup_cons] at hn
    refine (List.Perm.cons x (ih (l2.erase x) hn.2 (fun y hy => ?_) ?_)).trans hp.symm
    · have hne : y ≠ x := fun e => hn.1 (e ▸ hy)
      exact (List.mem_erase_of_ne hne).2 (hs y (List.mem_cons_of_mem _ hy))
    · have := List.length_erase_of_mem hx
      simp only [List.length_cons] at hl
      omega
def prod : List Nat → Nat
  | [] => 1
  | x :: r => x * prod r
theorem prod_perm {l m : List Nat} (h : l.Perm m) : prod l = prod m := by
  induction h with
  | nil => rfl
  | cons x _ ih => simp [prod, ih]
  | swap x y l => simp only [prod]; rw [Nat.mul_left_comm]
  | trans _ _ h1 h2 => exact h1.trans h2
theorem prod_not_dvd {p : Nat} (hp : Pr p) (l : List Nat) (h : ∀ x ∈ l, ¬ p ∣ x) : ¬ p ∣ prod l := by
  induction l with
  | nil => intro hd; have := Nat.le_of_dvd (by decide) hd; have := hp.1; simp [prod] at *; omega
  | cons x r ih =>
    intro hd
    rcases hp.dvd_mul hd with h1 | h1
    · exact h x (List.mem_cons_self ..) h1
    · exact ih (fun y hy => h y (List.mem_cons_of_mem _ hy)) h1
theorem prod_map (a p : Nat) (l : List Nat) : prod (l.map fun i => a * i % p) % p = a ^ l.length * prod l % p := by
  induction l with
  | nil => simp [prod]
  | cons x r ih =>
    simp only [List.map_cons, prod, List.length_cons]
    rw [Nat.mul_mod, ih, Nat.mod_mod, ← Nat.mul_mod]
    congr 1
    rw [Nat.pow_succ]
    simp only [Nat.mul_comm, Nat.mul_left_comm, Nat.mul_assoc]
theorem cancel {p a b c : Nat} (hp : Pr p) (hc : ¬ p ∣ c) (h : a * c % p = b * c % p) : a % p = b % p := by
  have hcp := hp.coprime hc
  have key : ∀ a b : Nat, a ≤ b → a * c % p = b * c % p → a % p = b % p := by
    intro a b hle h
    have hd : p ∣ (b - a) * c := by
      rw [Nat.sub_mul]
      exact Nat.dvd_of_mod_eq_zero (Nat.sub_mod_eq_zero_of_mod_eq h.symm)
    have hd2 : p ∣ b - a := by
      rw [Nat.mul_comm] at hd
      exact hcp.dvd_of_dvd_mul_left hd
    obtain ⟨k, hk⟩ := hd2
    have e : b = a + p * k := by omega
    rw [e, Nat.add_mul_mod_self_left]
  rcases Nat.le_total a b with hle | hle
  · exact key a b hle h
  · exact (key b a hle h.symm).symm
theorem fermat {p a : Nat} (hp : Pr p) (ha : ¬ p ∣ a) : a ^ (p - 1) % p = 1 := by
  have h1 := hp.1
  have hperm : ((List.range' 1 (p - 1)).map fun i => a * i % p).Perm (List.range' 1 (p - 1)) := by
    refine perm_of _ _ ?_ ?_ (by simp)
    · rw [List.Nodup, List.pairwise_map]
      refine (List.nodup_range' (s := 1) (n := p - 1)).imp_of_mem (fun {x y} hx hy hne he => hne ?_)
      rw [List.mem_range'_1] at hx hy
      rw [Nat.mul_comm a x, Nat.mul_comm a y] at he
      have := cancel hp ha he
      rwa [Nat.mod_eq_of_lt (by omega), Nat.mod_eq_of_lt (by omega)] at this
    · intro x hx
      obtain ⟨i, hi, rfl⟩ := List.mem_map.1 hx
      rw [List.mem_range'_1] at hi ⊢
      have hlt := Nat.mod_lt (a * i) (show 0 < p by omega)
      have hne : a * i % p ≠ 0 := by
        intro e
        rcases hp.dvd_mul (Nat.dvd_of_mod_eq_zero e) with h | h
        · exact ha h
        · exact absurd (Nat.le_of_dvd (by omega) h) (by omega)
      omega
  have hnd : ¬ p ∣ prod (List.range' 1 (p - 1)) := prod_not_dvd hp _ (fun x hx hd => by
    rw [List.mem_range'_1] at hx
    exact absurd (Nat.le_of_dvd (by omega) hd) (by omega))
  have h2 := prod_map a p (List.range' 1 (p - 1))
  rw [prod_perm hperm, List.length_range'] at h2
  have h3 := cancel hp hnd (a := 1) (b := a ^ (p - 1)) (by rw [Nat.one_mul]; exact h2)
  rw [← h3]
  exact Nat.mod_eq_of_lt h1
theorem pow_mod_one {b r m : Nat} (hr : 1 < r) (h : b ^ m % r = 1) (k : Nat) : b ^ (m * k) % r = 1 := by
  rw [Nat.pow_mul, Nat.pow_mod, h, Nat.one_pow, Nat.mod_eq_of_lt hr]
theorem pow_gcd {b r : Nat} (hr : 1 < r) (m n : Nat) : b ^ m % r = 1 → b ^ n % r = 1 → b ^ Nat.gcd m n % r = 1 := by
  induction m, n using Nat.gcd.induction with
  | H0 n => intro _ h; simpa using h
  | H1 m n hm ih =>
    intro h1 h2
    rw [Nat.gcd_rec]
    refine ih ?_ h1
    have e : n = m * (n / m) + n % m := (Nat.div_add_mod n m).symm
    rw [e, Nat.pow_add, Nat.mul_mod, pow_mod_one hr h1, Nat.one_mul, Nat.mod_mod] at h2
    exact h2
theorem pock {n q a : Nat} (hn : 1 < n) (hq : Pr q) (hd : q ∣ n - 1) (h1 : a ^ (n - 1) % n = 1) (hg : Nat.gcd (a ^ ((n - 1) / q) % n + (n - 1)) n = 1) {r : Nat} (hr : Pr r) (hrn : r ∣ n) : q ∣ r - 1 := by
  have hmod : ∀ x y : Nat, x % n = y % n → x % r = y % r := fun x y h => by
    rw [← Nat.mod_mod_of_dvd x hrn, h, Nat.mod_mod_of_dvd y hrn]
  have hr1 := hr.1
  have hb : (a ^ ((n - 1) / q)) ^ q % r = 1 := by
    rw [← Nat.pow_mul, Nat.div_mul_cancel hd]
    have := hmod (a ^ (n - 1)) 1 (by rw [h1, Nat.mod_eq_of_lt hn])
    rwa [Nat.mod_eq_of_lt hr1] at this
  have hne : a ^ ((n - 1) / q) % r ≠ 1 := by
    intro h
    have hdv : r ∣ a ^ ((n - 1) / q) % n + (n - 1) := by
      apply Nat.dvd_of_mod_eq_zero
      have e : (a ^ ((n - 1) / q) % n + (n - 1)) % r = (1 + (n - 1)) % r := by
        rw [Nat.add_mod, Nat.mod_mod_of_dvd _ hrn, h, Nat.add_mod_mod]
      rw [e, show 1 + (n - 1) = n by omega]
      exact Nat.mod_eq_zero_of_dvd hrn
    have := Nat.dvd_gcd hdv hrn
    rw [hg] at this
    have := Nat.le_of_dvd (by decide) this
    omega
  have hnd : ¬ r ∣ a ^ ((n - 1) / q) := by
    intro h
    have h2 : r ∣ (a ^ ((n - 1) / q)) ^ q := by
      have hq1 := hq.1
      obtain ⟨q', hq'⟩ : ∃ q', q = q' + 1 := ⟨q - 1, by omega⟩
      generalize a ^ ((n - 1) / q) = b at h ⊢
      rw [hq', Nat.pow_succ]
      exact Nat.dvd_trans h (Nat.dvd_mul_left ..)
    rw [Nat.mod_eq_zero_of_dvd h2] at hb
    omega
  have hf := fermat hr hnd
  have hgc := pow_gcd hr1 q (r - 1) hb hf
  rcases hq.2 _ (Nat.gcd_dvd_left q (r - 1)) with h | h
  · rw [h, Nat.pow_one] at hgc; exact absurd hgc hne
  · exact h ▸ Nat.gcd_dvd_right q (r - 1)
theorem prime_of {n F : Nat} (hn : 1 < n) (hF : n < (F + 1) * (F + 1)) (h : ∀ r, Pr r → r ∣ n → F ∣ r - 1) : Pr n := by
  refine ⟨hn, fun d hd => Classical.byContradiction fun hc => ?_⟩
  have big : ∀ x, x ∣ n → x ≠ 1 → F + 1 ≤ x := by
    intro x hx h1
    have h0 : x ≠ 0 := fun e => by subst e; rw [Nat.zero_dvd] at hx; omega
    obtain ⟨r, hr, hrx⟩ := exists_prime x (by omega)
    have h2 := h r hr (Nat.dvd_trans hrx hx)
    have h3 := Nat.le_of_dvd (by have := hr.1; omega) h2
    have h4 := Nat.le_of_dvd (by omega) hrx
    have := hr.1
    omega
  obtain ⟨e, rfl⟩ := hd
  have hd1 : d ≠ 1 := fun h => hc (.inl h)
  have he1 : e ≠ 1 := fun h => hc (.inr (by rw [h, Nat.mul_one]))
  have h1 := big d (Nat.dvd_mul_right ..) hd1
  have h2 := big e (Nat.dvd_mul_left ..) he1
  exact absurd hF (Nat.not_lt.2 (Nat.mul_le_mul h1 h2))
def pm : Nat → Nat → Nat → Nat → Nat
  | 0, _, _, n => 1 % n
  | k + 1, a, e, n => if e % 2 = 1 then a * pm k (a * a % n) (e / 2) n % n else pm k (a * a % n) (e / 2) n
theorem pm_eq (n : Nat) (k : Nat) : ∀ a e, e < 2 ^ k → pm k a e n = a ^ e % n := by
  induction k with
  | zero => intro a e h; have : e = 0 := by simpa using h
            subst this; rfl
  | succ k ih =>
    intro a e h
    have he : e / 2 < 2 ^ k := by rw [Nat.pow_succ] at h; omega
    have e2 : a ^ e = a ^ (e % 2) * (a * a) ^ (e / 2) := by
      rw [← Nat.pow_two, ← Nat.pow_mul, ← Nat.pow_add]; congr 1; omega
    rw [pm, ih _ _ he, ← Nat.pow_mod]
    by_cases c : e % 2 = 1
    · rw [if_pos c, e2, c, Nat.pow_one]
      simp [Nat.mul_mod]
    · rw [if_neg c, e2, show e % 2 = 0 by omega, Nat.pow_zero, Nat.one_mul]
def tri : Nat → Nat → Nat → Bool
  | 0, _, _ => true
  | k + 1, d, n => if n % d = 0 then false else tri k (d + 1) n
theorem tri_spec (n k : Nat) : ∀ d, tri k d n = true → ∀ x, d ≤ x → x < d + k → ¬ x ∣ n := by
  induction k with
  | zero => intro d _ x h1 h2; omega
  | succ k ih =>
    intro d h x h1 h2 hx
    rw [tri] at h
    by_cases c : n % d = 0
    · rw [if_pos c] at h; cases h
    · rw [if_neg c] at h
      by_cases e : x = d
      · subst e; exact c (Nat.mod_eq_zero_of_dvd hx)
      · exact ih (d + 1) h x (by omega) (by omega) hx
theorem prime_tri {n : Nat} (k : Nat) (hn : 1 < n) (hk : n < (k + 2) * (k + 2)) (h : tri k 2 n = true) : Pr n := by
  refine ⟨hn, fun d hd => Classical.byContradiction fun hc => ?_⟩
  obtain ⟨e, rfl⟩ := hd
  have hd1 : d ≠ 1 := fun h => hc (.inl h)
  have he1 : e ≠ 1 := fun h => hc (.inr (by rw [h, Nat.mul_one]))
  have hd0 : d ≠ 0 := fun h => by subst h; simp at hn
  have he0 : e ≠ 0 := fun h => by subst h; simp at hn
  have key := tri_spec _ _ _ h
  have h1 : k + 2 ≤ d := Nat.le_of_not_lt fun hl => key d (by omega) (by omega) (Nat.dvd_mul_right ..)
  have h2 : k + 2 ≤ e := Nat.le_of_not_lt fun hl => key e (by omega) (by omega) (Nat.dvd_mul_left ..)
  exact absurd hk (Nat.not_lt.2 (Nat.mul_le_mul h1 h2))
end Go.Proofs.Ytlajcahlmbjmnaa.Prime
namespace Go.Proofs.Ytlajcahlmbjmnaa.Edw
theorem idX (d x1 y1 x2 y2 x3 y3 : Int) : (((x1*y2+x2*y1)*(1-(d*x1*x2*y1*y2))*y3 + (y1*y2+x1*x2)*(1+(d*x1*x2*y1*y2))*x3)*((1-(d*x2*x3*y2*y3)*(d*x2*x3*y2*y3)) + d*(x2*y3+x3*y2)*(y2*y3+x2*x3)*x1*y1) - (x1*(y2*y3+x2*x3)*(1+(d*x2*x3*y2*y3)) + y1*(x2*y3+x3*y2)*(1-(d*x2*x3*y2*y3)))*((1-(d*x1*x2*y1*y2)*(d*x1*x2*y1*y2)) + d*(x1*y2+x2*y1)*(y1*y2+x1*x2)*x3*y3)) = (-d*d*x1*x2*x2*x2*x2*y2*y2*y2*x3*x3*y3 - d*d*x1*x2*x2*x2*y2*y2*y2*y2*x3*y3*y3 + d*d*y1*x2*x2*x2*x2*y2*y2*y2*x3*y3*y3 + d*d*y1*x2*x2*x2*y2*y2*y2*y2*x3*x3*y3 - d*x1*x2*x2*x2*x2*y2*x3*x3*y3 - d*x1*x2*x2*x2*y2*y2*x3*x3*x3 - d*x1*x2*x2*x2*y2*y2*x3 + d*x1*x2*x2*y2*y2*y2*y3*y3*y3 - d*x1*x2*x2*y2*y2*y2*y3 + d*x1*x2*y2*y2*y2*y2*x3*y3*y3 + d*y1*x2*x2*x2*x2*y2*x3*y3*y3 + d*y1*x2*x2*x2*y2*y2*y3*y3*y3 - d*y1*x2*x2*x2*y2*y2*y3 - d*y1*x2*x2*y2*y2*y2*x3*x3*x3 - d*y1*x2*x2*y2*y2*y2*x3 - d*y1*x2*y2*y2*y2*y2*x3*x3*y3)*(y1*y1 - x1*x1 - 1 - d*(x1*x1)*(y1*y1)) + (d*d*x1*x1*y1*x2*x2*y2*x3*x3*x3*y3*y3 - d*d*x1*x1*y1*x2*y2*y2*x3*x3*y3*y3*y3 - d*d*x1*y1*y1*x2*x2*y2*x3*x3*y3*y3*y3 + d*d*x1*y1*y1*x2*y2*y2*x3*x3*x3*y3*y3 + d*x1*x1*x1*x2*x2*y2*x3*x3*y3 + d*x1*x1*x1*x2*y2*y2*x3*y3*y3 + d*x1*x1*x1*x2*x3*x3*x3*y3*y3 + d*x1*x1*x1*y2*x3*x3*y3*y3*y3 - d*x1*x1*y1*x2*x2*y2*x3*y3*y3 - d*x1*x1*y1*x2*y2*y2*x3*x3*y3 + d*x1*x1*y1*x2*x3*x3*y3*y3*y3 + d*x1*x1*y1*y2*x3*x3*x3*y3*y3 - d*x1*y1*y1*x2*x2*y2*x3*x3*y3 - d*x1*y1*y1*x2*y2*y2*x3*y3*y3 - d*x1*y1*y1*x2*x3*x3*x3*y3*y3 - d*x1*y1*y1*y2*x3*x3*y3*y3*y3 + d*x1*x2*x2*y2*x3*x3*y3 + d*x1*x2*y2*y2*x3*y3*y3 + d*x1*x2*x3*x3*x3*y3*y3 + d*x1*y2*x3*x3*y3*y3*y3 + d*y1*y1*y1*x2*x2*y2*x3*y3*y3 + d*y1*y1*y1*x2*y2*y2*x3*x3*y3 - d*y1*y1*y1*x2*x3*x3*y3*y3*y3 - d*y1*y1*y1*y2*x3*x3*x3*y3*y3 - d*y1*x2*x2*y2*x3*y3*y3 - d*y1*x2*y2*y2*x3*x3*y3 + d*y1*x2*x3*x3*y3*y3*y3 + d*y1*y2*x3*x3*x3*y3*y3 + x1*x1*x1*x2*x3*x3*x3 - x1*x1*x1*x2*x3*y3*y3 + x1*x1*x1*x2*x3 + x1*x1*x1*y2*x3*x3*y3 - x1*x1*x1*y2*y3*y3*y3 + x1*x1*x1*y2*y3 + x1*x1*y1*x2*x3*x3*y3 - x1*x1*y1*x2*y3*y3*y3 + x1*x1*y1*x2*y3 + x1*x1*y1*y2*x3*x3*x3 - x1*x1*y1*y2*x3*y3*y3 + x1*x1*y1*y2*x3 - x1*y1*y1*x2*x3*x3*x3 + x1*y1*y1*x2*x3*y3*y3 - x1*y1*y1*x2*x3 - x1*y1*y1*y2*x3*x3*y3 + x1*y1*y1*y2*y3*y3*y3 - x1*y1*y1*y2*y3 + x1*x2*x3*x3*x3 - x1*x2*x3*y3*y3 + x1*x2*x3 + x1*y2*x3*x3*y3 - x1*y2*y3*y3*y3 + x1*y2*y3 - y1*y1*y1*x2*x3*x3*y3 + y1*y1*y1*x2*y3*y3*y3 - y1*y1*y1*x2*y3 - y1*y1*y1*y2*x3*x3*x3 + y1*y1*y1*y2*x3*y3*y3 - y1*y1*y1*y2*x3 + y1*x2*x3*x3*y3 - y1*x2*y3*y3*y3 + y1*x2*y3 + y1*y2*x3*x3*x3 - y1*y2*x3*y3*y3 + y1*y2*x3)*(y2*y2 - x2*x2 - 1 - d*(x2*x2)*(y2*y2)) + (-d*x1*x1*y1*x2*x2*y2*x3 + d*x1*x1*y1*x2*y2*y2*y3 + d*x1*y1*y1*x2*x2*y2*y3 - d*x1*y1*y1*x2*y2*y2*x3 - x1*x1*x1*x2*x2*x2*x3 - x1*x1*x1*x2*x2*y2*y3 + x1*x1*x1*x2*y2*y2*x3 - x1*x1*x1*x2*x3 + x1*x1*x1*y2*y2*y2*y3 - x1*x1*x1*y2*y3 - x1*x1*y1*x2*x2*x2*y3 - x1*x1*y1*x2*x2*y2*x3 + x1*x1*y1*x2*y2*y2*y3 - x1*x1*y1*x2*y3 + x1*x1*y1*y2*y2*y2*x3 - x1*x1*y1*y2*x3 + x1*y1*y1*x2*x2*x2*x3 + x1*y1*y1*x2*x2*y2*y3 - x1*y1*y1*x2*y2*y2*x3 + x1*y1*y1*x2*x3 - x1*y1*y1*y2*y2*y2*y3 + x1*y1*y1*y2*y3 - x1*x2*x2*x2*x3 - x1*x2*x2*y2*y3 + x1*x2*y2*y2*x3 - x1*x2*x3 + x1*y2*y2*y2*y3 - x1*y2*y3 + y1*y1*y1*x2*x2*x2*y3 + y1*y1*y1*x2*x2*y2*x3 - y1*y1*y1*x2*y2*y2*y3 + y1*y1*y1*x2*y3 - y1*y1*y1*y2*y2*y2*x3 + y1*y1*y1*y2*x3 - y1*x2*x2*x2*y3 - y1*x2*x2*y2*x3 + y1*x2*y2*y2*y3 - y1*x2*y3 + y1*y2*y2*y2*x3 - y1*y2*x3)*(y3*y3 - x3*x3 - 1 - d*(x3*x3)*(y3*y3)) := by
  grind
theorem idY (d x1 y1 x2 y2 x3 y3 : Int) : (((y1*y2+x1*x2)*(1+(d*x1*x2*y1*y2))*y3 + (x1*y2+x2*y1)*(1-(d*x1*x2*y1*y2))*x3)*((1-(d*x2*x3*y2*y3)*(d*x2*x3*y2*y3)) - d*(x2*y3+x3*y2)*(y2*y3+x2*x3)*x1*y1) - (y1*(y2*y3+x2*x3)*(1+(d*x2*x3*y2*y3)) + x1*(x2*y3+x3*y2)*(1-(d*x2*x3*y2*y3)))*((1-(d*x1*x2*y1*y2)*(d*x1*x2*y1*y2)) - d*(x1*y2+x2*y1)*(y1*y2+x1*x2)*x3*y3)) = (d*d*x1*x2*x2*x2*x2*y2*y2*y2*x3*y3*y3 + d*d*x1*x2*x2*x2*y2*y2*y2*y2*x3*x3*y3 - d*d*y1*x2*x2*x2*x2*y2*y2*y2*x3*x3*y3 - d*d*y1*x2*x2*x2*y2*y2*y2*y2*x3*y3*y3 + d*x1*x2*x2*x2*x2*y2*x3*y3*y3 + d*x1*x2*x2*x2*y2*y2*y3*y3*y3 - d*x1*x2*x2*x2*y2*y2*y3 - d*x1*x2*x2*y2*y2*y2*x3*x3*x3 - d*x1*x2*x2*y2*y2*y2*x3 - d*x1*x2*y2*y2*y2*y2*x3*x3*y3 - d*y1*x2*x2*x2*x2*y2*x3*x3*y3 - d*y1*x2*x2*x2*y2*y2*x3*x3*x3 - d*y1*x2*x2*x2*y2*y2*x3 + d*y1*x2*x2*y2*y2*y2*y3*y3*y3 - d*y1*x2*x2*y2*y2*y2*y3 + d*y1*x2*y2*y2*y2*y2*x3*y3*y3)*(y1*y1 - x1*x1 - 1 - d*(x1*x1)*(y1*y1)) + (d*d*x1*x1*y1*x2*x2*y2*x3*x3*y3*y3*y3 - d*d*x1*x1*y1*x2*y2*y2*x3*x3*x3*y3*y3 - d*d*x1*y1*y1*x2*x2*y2*x3*x3*x3*y3*y3 + d*d*x1*y1*y1*x2*y2*y2*x3*x3*y3*y3*y3 - d*x1*x1*x1*x2*x2*y2*x3*y3*y3 - d*x1*x1*x1*x2*y2*y2*x3*x3*y3 + d*x1*x1*x1*x2*x3*x3*y3*y3*y3 + d*x1*x1*x1*y2*x3*x3*x3*y3*y3 + d*x1*x1*y1*x2*x2*y2*x3*x3*y3 + d*x1*x1*y1*x2*y2*y2*x3*y3*y3 + d*x1*x1*y1*x2*x3*x3*x3*y3*y3 + d*x1*x1*y1*y2*x3*x3*y3*y3*y3 + d*x1*y1*y1*x2*x2*y2*x3*y3*y3 + d*x1*y1*y1*x2*y2*y2*x3*x3*y3 - d*x1*y1*y1*x2*x3*x3*y3*y3*y3 - d*x1*y1*y1*y2*x3*x3*x3*y3*y3 - d*x1*x2*x2*y2*x3*y3*y3 - d*x1*x2*y2*y2*x3*x3*y3 + d*x1*x2*x3*x3*y3*y3*y3 + d*x1*y2*x3*x3*x3*y3*y3 - d*y1*y1*y1*x2*x2*y2*x3*x3*y3 - d*y1*y1*y1*x2*y2*y2*x3*y3*y3 - d*y1*y1*y1*x2*x3*x3*x3*y3*y3 - d*y1*y1*y1*y2*x3*x3*y3*y3*y3 + d*y1*x2*x2*y2*x3*x3*y3 + d*y1*x2*y2*y2*x3*y3*y3 + d*y1*x2*x3*x3*x3*y3*y3 + d*y1*y2*x3*x3*y3*y3*y3 + x1*x1*x1*x2*x3*x3*y3 - x1*x1*x1*x2*y3*y3*y3 + x1*x1*x1*x2*y3 + x1*x1*x1*y2*x3*x3*x3 - x1*x1*x1*y2*x3*y3*y3 + x1*x1*x1*y2*x3 + x1*x1*y1*x2*x3*x3*x3 - x1*x1*y1*x2*x3*y3*y3 + x1*x1*y1*x2*x3 + x1*x1*y1*y2*x3*x3*y3 - x1*x1*y1*y2*y3*y3*y3 + x1*x1*y1*y2*y3 - x1*y1*y1*x2*x3*x3*y3 + x1*y1*y1*x2*y3*y3*y3 - x1*y1*y1*x2*y3 - x1*y1*y1*y2*x3*x3*x3 + x1*y1*y1*y2*x3*y3*y3 - x1*y1*y1*y2*x3 + x1*x2*x3*x3*y3 - x1*x2*y3*y3*y3 + x1*x2*y3 + x1*y2*x3*x3*x3 - x1*y2*x3*y3*y3 + x1*y2*x3 - y1*y1*y1*x2*x3*x3*x3 + y1*y1*y1*x2*x3*y3*y3 - y1*y1*y1*x2*x3 - y1*y1*y1*y2*x3*x3*y3 + y1*y1*y1*y2*y3*y3*y3 - y1*y1*y1*y2*y3 + y1*x2*x3*x3*x3 - y1*x2*x3*y3*y3 + y1*x2*x3 + y1*y2*x3*x3*y3 - y1*y2*y3*y3*y3 + y1*y2*y3)*(y2*y2 - x2*x2 - 1 - d*(x2*x2)*(y2*y2)) + (-d*x1*x1*y1*x2*x2*y2*y3 + d*x1*x1*y1*x2*y2*y2*x3 + d*x1*y1*y1*x2*x2*y2*x3 - d*x1*y1*y1*x2*y2*y2*y3 - x1*x1*x1*x2*x2*x2*y3 - x1*x1*x1*x2*x2*y2*x3 + x1*x1*x1*x2*y2*y2*y3 - x1*x1*x1*x2*y3 + x1*x1*x1*y2*y2*y2*x3 - x1*x1*x1*y2*x3 - x1*x1*y1*x2*x2*x2*x3 - x1*x1*y1*x2*x2*y2*y3 + x1*x1*y1*x2*y2*y2*x3 - x1*x1*y1*x2*x3 + x1*x1*y1*y2*y2*y2*y3 - x1*x1*y1*y2*y3 + x1*y1*y1*x2*x2*x2*y3 + x1*y1*y1*x2*x2*y2*x3 - x1*y1*y1*x2*y2*y2*y3 + x1*y1*y1*x2*y3 - x1*y1*y1*y2*y2*y2*x3 + x1*y1*y1*y2*x3 - x1*x2*x2*x2*y3 - x1*x2*x2*y2*x3 + x1*x2*y2*y2*y3 - x1*x2*y3 + x1*y2*y2*y2*x3 - x1*y2*x3 + y1*y1*y1*x2*x2*x2*x3 + y1*y1*y1*x2*x2*y2*y3 - y1*y1*y1*x2*y2*y2*x3 + y1*y1*y1*x2*x3 - y1*y1*y1*y2*y2*y2*y3 + y1*y1*y1*y2*y3 - y1*x2*x2*x2*x3 - y1*x2*x2*y2*y3 + y1*x2*y2*y2*x3 - y1*x2*x3 + y1*y2*y2*y2*y3 - y1*y2*y3)*(y3*y3 - x3*x3 - 1 - d*(x3*x3)*(y3*y3)) := by
  grind
theorem idC (d x1 y1 x2 y2 : Int) : ((y1*y2+x1*x2)*(y1*y2+x1*x2)*((1+(d*x1*x2*y1*y2))*(1+(d*x1*x2*y1*y2))) - (x1*y2+x2*y1)*(x1*y2+x2*y1)*((1-(d*x1*x2*y1*y2))*(1-(d*x1*x2*y1*y2))) - ((1+(d*x1*x2*y1*y2))*(1-(d*x1*x2*y1*y2)))*((1+(d*x1*x2*y1*y2))*(1-(d*x1*x2*y1*y2))) - d*((x1*y2+x2*y1)*(x1*y2+x2*y1))*((y1*y2+x1*x2)*(y1*y2+x1*x2))) = (d*d*d*x1*x1*y1*y1*x2*x2*x2*x2*y2*y2*y2*y2 - d*d*x1*x1*x2*x2*x2*x2*y2*y2*y2*y2 + d*d*y1*y1*x2*x2*x2*x2*y2*y2*y2*y2 - d*d*x2*x2*x2*x2*y2*y2*y2*y2 - d*x1*x1*x2*x2*x2*x2*y2*y2 + d*x1*x1*x2*x2*y2*y2*y2*y2 + d*y1*y1*x2*x2*x2*x2*y2*y2 - d*y1*y1*x2*x2*y2*y2*y2*y2 - 2*d*x2*x2*x2*x2*y2*y2*y2*y2 - 2*d*x2*x2*y2*y2 - 2*x2*x2*x2*x2*y2*y2 + x2*x2*x2*x2 + 2*x2*x2*y2*y2*y2*y2 - 4*x2*x2*y2*y2 + y2*y2*y2*y2)*(y1*y1 - x1*x1 - 1 - d*(x1*x1)*(y1*y1)) + (d*x1*x1*x1*x1*x2*x2*y2*y2 + 2*d*x1*x1*x2*x2*y2*y2 + d*y1*y1*y1*y1*x2*x2*y2*y2 - 2*d*y1*y1*x2*x2*y2*y2 + d*x2*x2*y2*y2 + 2*x1*x1*x2*x2*y2*y2 - x1*x1*x2*x2 + x1*x1*y2*y2 - 2*y1*y1*x2*x2*y2*y2 + y1*y1*x2*x2 - y1*y1*y2*y2 + 2*x2*x2*y2*y2 - x2*x2 + y2*y2 + 1)*(y2*y2 - x2*x2 - 1 - d*(x2*x2)*(y2*y2)) := by
  grind
theorem dv1 {p e X : Int} (q : Int) (h : p ∣ e) (hX : X = q * e) : p ∣ X := hX ▸ Int.dvd_mul_of_dvd_right h
theorem dv2 {p e f X : Int} (q r : Int) (h : p ∣ e) (h2 : p ∣ f) (hX : X = q * e + r * f) : p ∣ X := hX ▸ Int.dvd_add (Int.dvd_mul_of_dvd_right h) (Int.dvd_mul_of_dvd_right h2)
theorem dv3 {p e f g X : Int} (q r s : Int) (h : p ∣ e) (h2 : p ∣ f) (h3 : p ∣ g) (hX : X = q * e + r * f + s * g) : p ∣ X := hX ▸ Int.dvd_add (Int.dvd_add (Int.dvd_mul_of_dvd_right h) (Int.dvd_mul_of_dvd_right h2)) (Int.dvd_mul_of_dvd_right h3)
theorem dv4 {p e f g k X : Int} (q r s t : Int) (h : p ∣ e) (h2 : p ∣ f) (h3 : p ∣ g) (h4 : p ∣ k) (hX : X = q * e + r * f + s * g + t * k) : p ∣ X := hX ▸ Int.dvd_add (Int.dvd_add (Int.dvd_add (Int.dvd_mul_of_dvd_right h) (Int.dvd_mul_of_dvd_right h2)) (Int.dvd_mul_of_dvd_right h3)) (Int.dvd_mul_of_dvd_right h4)
structure Cv (p d i : Int) : Prop where
  pr : ∀ a b : Int, p ∣ a * b → p ∣ a ∨ p ∣ b
  ns : ∀ s t : Int, p ∣ s * s - d * (t * t) → p ∣ t
  im : p ∣ i * i + 1
  two : ¬ p ∣ 2
def On (p d x y : Int) : Prop := p ∣ y*y - x*x - 1 - d*(x*x)*(y*y)
theorem Cv.one {p d i : Int} (C : Cv p d i) : ¬ p ∣ 1 := fun h => C.two (by rw [show (2 : Int) = 2 * 1 from rfl]; exact Int.dvd_mul_of_dvd_right h)
theorem half {p d i x1 y1 x2 y2 e l : Int} (C : Cv p d i) (h1 : On p d x1 y1) (h2 : On p d x2 y2) (he : e * e = 1) (hl : l * l = 1) (h : p ∣ e - d*x1*x2*y1*y2) : p ∣ x1 * y1 * (y2 + l * i * x2) := by
  refine C.ns (y1 + l * e * i * x1) _ (dv4 1 (- (d * (x1*x1) * (y1*y1))) (x1*x1 - d*(x1*x1)*(y1*y1)*(x2*x2)) (e + d*x1*x2*y1*y2 + 2*l*i*x1*y1) h1 h2 C.im h ?_)
  grind
theorem cmpl {p d i x1 y1 x2 y2 e : Int} (C : Cv p d i) (h1 : On p d x1 y1) (h2 : On p d x2 y2) (he : e * e = 1) : ¬ p ∣ e - d*x1*x2*y1*y2 := by
  intro h
  have no : ¬ p ∣ d*x1*x2*y1*y2 := fun hd => C.one (dv2 e e h hd (by grind))
  have a := half C h1 h2 he (l := 1) rfl h
  have b := half C h1 h2 he (l := -1) rfl h
  have k : ∀ z : Int, p ∣ x1 * y1 * z → p ∣ z := by
    intro z hz
    rcases C.pr _ _ hz with hz | hz
    · rcases C.pr _ _ hz with hz | hz
      · exact absurd (dv1 (d*x2*y1*y2) hz (by grind)) no
      · exact absurd (dv1 (d*x1*x2*y2) hz (by grind)) no
    · exact hz
  have s : p ∣ 2 * y2 := dv2 1 1 (k _ a) (k _ b) (by grind)
  rcases C.pr _ _ s with s | s
  · exact C.two s
  · exact no (dv1 (d*x1*x2*y1) s (by grind))
theorem den1 {p d i x1 y1 x2 y2 : Int} (C : Cv p d i) (h1 : On p d x1 y1) (h2 : On p d x2 y2) : ¬ p ∣ 1 + d*x1*x2*y1*y2 := fun h => cmpl C h1 h2 (e := -1) rfl (dv1 (-1) h (by grind))
theorem den2 {p d i x1 y1 x2 y2 : Int} (C : Cv p d i) (h1 : On p d x1 y1) (h2 : On p d x2 y2) : ¬ p ∣ 1 - d*x1*x2*y1*y2 := cmpl C h1 h2 (e := 1) rfl
structure Sm (p d x1 y1 x2 y2 x y : Int) : Prop where
  hx : p ∣ x*(1 + d*x1*x2*y1*y2) - (x1*y2 + x2*y1)
  hy : p ∣ y*(1 - d*x1*x2*y1*y2) - (y1*y2 + x1*x2)
theorem Cv.pr3 {p d i : Int} (C : Cv p d i) {a b : Int} (ha : ¬ p ∣ a) (hb : ¬ p ∣ b) : ¬ p ∣ a * b := fun h => (C.pr _ _ h).elim ha hb
theorem Cv.cancel {p d i : Int} (C : Cv p d i) {a b : Int} (h : p ∣ a * b) (ha : ¬ p ∣ a) : p ∣ b := (C.pr _ _ h).elim (fun h => absurd h ha) id
theorem clos {p d i x1 y1 x2 y2 x y : Int} (C : Cv p d i) (h1 : On p d x1 y1) (h2 : On p d x2 y2) (h : Sm p d x1 y1 x2 y2 x y) : On p d x y := by
  have u0 := den1 C h1 h2
  have v0 := den2 C h1 h2
  have hc := idC d x1 y1 x2 y2
  have hcl := dv2 _ _ h1 h2 hc
  clear hc
  obtain ⟨hx, hy⟩ := h
  generalize hu : 1 + d*x1*x2*y1*y2 = u at *
  generalize hv : 1 - d*x1*x2*y1*y2 = v at *
  generalize ha : x1*y2 + x2*y1 = a at *
  generalize hb : y1*y2 + x1*x2 = b at *
  have w0 := C.pr3 (C.pr3 u0 v0) (C.pr3 u0 v0)
  exact C.cancel (dv3 1 (-((x*u+a)*(v*v)) - d*(x*u+a)*((y*v)*(y*v))) ((y*v+b)*(u*u) - d*(a*a)*(y*v+b)) hcl hx hy (by grind)) w0
theorem uniq {p d i x1 y1 x2 y2 x y x' y' : Int} (C : Cv p d i) (h1 : On p d x1 y1) (h2 : On p d x2 y2) (h : Sm p d x1 y1 x2 y2 x y) (h' : Sm p d x1 y1 x2 y2 x' y') : p ∣ x - x' ∧ p ∣ y - y' :=
  ⟨C.cancel (dv2 1 (-1) h.hx h'.hx (by grind)) (den1 C h1 h2), C.cancel (dv2 1 (-1) h.hy h'.hy (by grind)) (den2 C h1 h2)⟩
theorem assoc {p d i x1 y1 x2 y2 x3 y3 x12 y12 x23 y23 xl yl xr yr : Int} (C : Cv p d i) (h1 : On p d x1 y1) (h2 : On p d x2 y2) (h3 : On p d x3 y3)
    (s12 : Sm p d x1 y1 x2 y2 x12 y12) (sl : Sm p d x12 y12 x3 y3 xl yl) (s23 : Sm p d x2 y2 x3 y3 x23 y23) (sr : Sm p d x1 y1 x23 y23 xr yr) : p ∣ xl - xr ∧ p ∣ yl - yr := by
  have h12 := clos C h1 h2 s12
  have h23 := clos C h2 h3 s23
  have dX := dv3 _ _ _ h1 h2 h3 (idX d x1 y1 x2 y2 x3 y3)
  have dY := dv3 _ _ _ h1 h2 h3 (idY d x1 y1 x2 y2 x3 y3)
  have a0 := den1 C h1 h2
  have a1 := den2 C h1 h2
  have b0 := den1 C h2 h3
  have b1 := den2 C h2 h3
  have c0 := den1 C h12 h3
  have c1 := den2 C h12 h3
  have e0 := den1 C h1 h23
  have e1 := den2 C h1 h23
  obtain ⟨p1, p2⟩ := s12
  obtain ⟨q1, q2⟩ := s23
  obtain ⟨l1, l2⟩ := sl
  obtain ⟨r1, r2⟩ := sr
  clear h1 h2 h3 h12 h23
  generalize hu : 1 + d*x1*x2*y1*y2 = u at *
  generalize hv : 1 - d*x1*x2*y1*y2 = v at *
  generalize hu' : 1 + d*x2*x3*y2*y3 = u' at *
  generalize hv' : 1 - d*x2*x3*y2*y3 = v' at *
  have g1 : 1 - (d*x1*x2*y1*y2)*(d*x1*x2*y1*y2) = u * v := by rw [← hu, ← hv]; grind
  have g2 : 1 - (d*x2*x3*y2*y3)*(d*x2*x3*y2*y3) = u' * v' := by rw [← hu', ← hv']; grind
  rw [g1, g2] at dX dY
  generalize ha : x1*y2 + x2*y1 = a at *
  generalize hb : y1*y2 + x1*x2 = b at *
  generalize ha' : x2*y3 + x3*y2 = a' at *
  generalize hb' : y2*y3 + x2*x3 = b' at *
  clear hu hv hu' hv' ha hb ha' hb' g1 g2
  have L1 : p ∣ xl*(u*v + d*a*b*x3*y3) - (a*v*y3 + b*u*x3) := dv3 (u*v) (-(xl*d*x3*y3*(y12*v)) + v*y3) (-(xl*d*x3*y3*a) + u*x3) l1 p1 p2 (by grind)
  have L2 : p ∣ yl*(u*v - d*a*b*x3*y3) - (b*u*y3 + a*v*x3) := dv3 (u*v) (yl*d*x3*y3*(y12*v) + v*x3) (yl*d*x3*y3*a + u*y3) l2 p1 p2 (by grind)
  have R1 : p ∣ xr*(u'*v' + d*a'*b'*x1*y1) - (x1*b'*u' + y1*a'*v') := dv3 (u'*v') (-(xr*d*x1*y1*(y23*v')) + v'*y1) (-(xr*d*x1*y1*a') + u'*x1) r1 q1 q2 (by grind)
  have R2 : p ∣ yr*(u'*v' - d*a'*b'*x1*y1) - (y1*b'*u' + x1*a'*v') := dv3 (u'*v') (yr*d*x1*y1*(y23*v') + v'*x1) (yr*d*x1*y1*a' + u'*y1) r2 q1 q2 (by grind)
  have k1 : ¬ p ∣ u*v + d*a*b*x3*y3 := fun h => C.pr3 (C.pr3 a0 a1) c0 (dv3 1 (d*x3*y3*(y12*v)) (d*x3*y3*a) h p1 p2 (by grind))
  have k2 : ¬ p ∣ u*v - d*a*b*x3*y3 := fun h => C.pr3 (C.pr3 a0 a1) c1 (dv3 1 (-(d*x3*y3*(y12*v))) (-(d*x3*y3*a)) h p1 p2 (by grind))
  have m1 : ¬ p ∣ u'*v' + d*a'*b'*x1*y1 := fun h => C.pr3 (C.pr3 b0 b1) e0 (dv3 1 (d*x1*y1*(y23*v')) (d*x1*y1*a') h q1 q2 (by grind))
  have m2 : ¬ p ∣ u'*v' - d*a'*b'*x1*y1 := fun h => C.pr3 (C.pr3 b0 b1) e1 (dv3 1 (-(d*x1*y1*(y23*v'))) (-(d*x1*y1*a')) h q1 q2 (by grind))
  refine ⟨C.cancel (a := (u*v + d*a*b*x3*y3) * (u'*v' + d*a'*b'*x1*y1)) ?_ (C.pr3 k1 m1), C.cancel (a := (u*v - d*a*b*x3*y3) * (u'*v' - d*a'*b'*x1*y1)) ?_ (C.pr3 k2 m2)⟩
  · exact dv3 1 (u'*v' + d*a'*b'*x1*y1) (-(u*v + d*a*b*x3*y3)) dX L1 R1 (by grind)
  · exact dv3 1 (u'*v' - d*a'*b'*x1*y1) (-(u*v - d*a*b*x3*y3)) dY L2 R2 (by grind)
def E (p a b : Int) : Prop := p ∣ a - b
theorem E.refl (p a : Int) : E p a a := ⟨0, by omega⟩
theorem E.of {p a b : Int} (h : a = b) : E p a b := h ▸ E.refl p a
theorem E.symm {p a b : Int} (h : E p a b) : E p b a := by obtain ⟨c, hc⟩ := h; exact ⟨-c, by rw [Int.mul_neg, ← hc]; omega⟩
theorem E.trans {p a b c : Int} (h : E p a b) (k : E p b c) : E p a c := by obtain ⟨u, hu⟩ := h; obtain ⟨v, hv⟩ := k; exact ⟨u + v, by rw [Int.mul_add, ← hu, ← hv]; omega⟩
theorem E.add {p a b c e : Int} (h : E p a b) (k : E p c e) : E p (a + c) (b + e) := by obtain ⟨u, hu⟩ := h; obtain ⟨v, hv⟩ := k; exact ⟨u + v, by rw [Int.mul_add, ← hu, ← hv]; omega⟩
theorem E.sub {p a b c e : Int} (h : E p a b) (k : E p c e) : E p (a - c) (b - e) := by obtain ⟨u, hu⟩ := h; obtain ⟨v, hv⟩ := k; exact ⟨u - v, by rw [Int.mul_sub, ← hu, ← hv]; omega⟩
theorem E.mul {p a b c e : Int} (h : E p a b) (k : E p c e) : E p (a * c) (b * e) := by
  obtain ⟨u, hu⟩ := h; obtain ⟨v, hv⟩ := k
  exact ⟨u * c + b * v, by
    have : p * (u * c + b * v) = (p * u) * c + b * (p * v) := by grind
    rw [this, ← hu, ← hv]; grind⟩
theorem E.dvd {p a b : Int} (h : E p a b) (k : p ∣ a) : p ∣ b := by
  obtain ⟨u, hu⟩ := h; obtain ⟨v, hv⟩ := k
  exact ⟨v - u, by rw [Int.mul_sub, ← hu, ← hv]; omega⟩
theorem E.can {p a b : Int} (h : E p a b) (ha : 0 ≤ a ∧ a < p) (hb : 0 ≤ b ∧ b < p) : a = b := by
  obtain ⟨u, hu⟩ := h
  have h1 : u < 1 := by
    rcases Int.lt_or_le u 1 with h | h
    · exact h
    · have := Int.mul_le_mul_of_nonneg_left h (show 0 ≤ p by omega); omega
  have h2 : -1 < u := by
    rcases Int.lt_or_le (-1) u with h | h
    · exact h
    · have := Int.mul_le_mul_of_nonneg_left h (show 0 ≤ p by omega); omega
  obtain rfl : u = 0 := by omega
  omega
theorem E.emod (p a : Int) : E p (a % p) a := by
  have := Int.emod_add_mul_ediv a p
  exact ⟨-(a / p), by rw [Int.mul_neg]; omega⟩
structure Rep (p X Y Z T x y : Int) : Prop where
  hz : ¬ p ∣ Z
  hx : E p X (x * Z)
  hy : E p Y (y * Z)
  ht : E p T (x * y * Z)
theorem Rep.plusI {p d i X1 Y1 Z1 T1 X2 Y2 Z2 T2 x1 y1 x2 y2 x y a b z own one two X Y Z T : Int} (C : Cv p d i) (o1 : On p d x1 y1) (o2 : On p d x2 y2) (r1 : Rep p X1 Y1 Z1 T1 x1 y1) (r2 : Rep p X2 Y2 Z2 T2 x2 y2) (s : Sm p d x1 y1 x2 y2 x y)
    (ha : E p a (X1 * Y2 + X2 * Y1)) (hb : E p b (Y1 * Y2 + X1 * X2)) (hz : E p z (Z1 * Z2)) (ho : E p own (d * T1 * T2)) (h1 : E p one (z + own)) (h2 : E p two (z - own))
    (hX : E p X (a * two)) (hY : E p Y (b * one)) (hZ : E p Z (one * two)) (hT : E p T (a * b)) : Rep p X Y Z T x y := by
  have W : E p z (Z1 * Z2) := hz
  obtain ⟨w, hw⟩ : ∃ w, w = Z1 * Z2 := ⟨_, rfl⟩
  have ea : E p a ((x1 * y2 + x2 * y1) * w) := ha.trans (((r1.hx.mul r2.hy).add (r2.hx.mul r1.hy)).trans (E.of (by rw [hw]; grind)))
  have eb : E p b ((y1 * y2 + x1 * x2) * w) := hb.trans (((r1.hy.mul r2.hy).add (r1.hx.mul r2.hx)).trans (E.of (by rw [hw]; grind)))
  have eo : E p own ((d*x1*x2*y1*y2) * w) := ho.trans ((((E.refl p d).mul r1.ht).mul r2.ht).trans (E.of (by rw [hw]; grind)))
  rw [← hw] at W
  have e1 : E p one ((1 + d*x1*x2*y1*y2) * w) := h1.trans ((W.add eo).trans (E.of (by grind)))
  have e2 : E p two ((1 - d*x1*x2*y1*y2) * w) := h2.trans ((W.sub eo).trans (E.of (by grind)))
  have sx : E p (x * (1 + d*x1*x2*y1*y2)) (x1*y2 + x2*y1) := s.hx
  have sy : E p (y * (1 - d*x1*x2*y1*y2)) (y1*y2 + x1*x2) := s.hy
  have hw0 : ¬ p ∣ w := by rw [hw]; exact C.pr3 r1.hz r2.hz
  have k1 : ¬ p ∣ one := fun h => C.pr3 (den1 C o1 o2) hw0 (e1.dvd h)
  have k2 : ¬ p ∣ two := fun h => C.pr3 (den2 C o1 o2) hw0 (e2.dvd h)
  have ax : E p a (x * one) := ea.trans (((sx.symm.mul (E.refl p w)).trans (E.of (by grind))).trans ((E.refl p x).mul e1.symm))
  have ay : E p b (y * two) := eb.trans (((sy.symm.mul (E.refl p w)).trans (E.of (by grind))).trans ((E.refl p y).mul e2.symm))
  refine ⟨fun h => C.pr3 k1 k2 (hZ.dvd h), ?_, ?_, ?_⟩
  · exact hX.trans ((ax.mul (E.refl p two)).trans ((E.of (by grind)).trans ((E.refl p x).mul hZ.symm)))
  · exact hY.trans ((ay.mul (E.refl p one)).trans ((E.of (by grind)).trans ((E.refl p y).mul hZ.symm)))
  · exact hT.trans ((ax.mul ay).trans ((E.of (by grind)).trans ((E.refl p (x * y)).mul hZ.symm)))
theorem Rep.plusS {p d i X1 Y1 Z1 T1 X2 Y2 Z2 T2 x1 y1 x2 y2 x y d2 a b c e f g h dd X Y Z T : Int} (C : Cv p d i) (o1 : On p d x1 y1) (o2 : On p d x2 y2) (r1 : Rep p X1 Y1 Z1 T1 x1 y1) (r2 : Rep p X2 Y2 Z2 T2 x2 y2) (s : Sm p d x1 y1 x2 y2 x y)
    (hd2 : E p d2 (2 * d)) (ha : E p a ((Y1 - X1) * (Y2 - X2))) (hb : E p b ((Y1 + X1) * (Y2 + X2))) (hc : E p c (T1 * d2 * T2)) (hdd : E p dd ((Z1 + Z1) * Z2)) (he : E p e (b - a)) (hf : E p f (dd - c)) (hg : E p g (dd + c)) (hh : E p h (b + a))
    (hX : E p X (e * f)) (hY : E p Y (g * h)) (hZ : E p Z (f * g)) (hT : E p T (e * h)) : Rep p X Y Z T x y := by
  obtain ⟨w, hw⟩ : ∃ w, w = 2 * (Z1 * Z2) := ⟨_, rfl⟩
  have ea : E p a ((y1 - x1) * (y2 - x2) * (Z1 * Z2)) := ha.trans (((r1.hy.sub r1.hx).mul (r2.hy.sub r2.hx)).trans (E.of (by grind)))
  have eb : E p b ((y1 + x1) * (y2 + x2) * (Z1 * Z2)) := hb.trans (((r1.hy.add r1.hx).mul (r2.hy.add r2.hx)).trans (E.of (by grind)))
  have ec : E p c ((d*x1*x2*y1*y2) * w) := hc.trans (((r1.ht.mul hd2).mul r2.ht).trans (E.of (by rw [hw]; grind)))
  have ed : E p dd w := hdd.trans (E.of (by rw [hw]; grind))
  have ee : E p e ((x1 * y2 + x2 * y1) * w) := he.trans ((eb.sub ea).trans (E.of (by rw [hw]; grind)))
  have eh : E p h ((y1 * y2 + x1 * x2) * w) := hh.trans ((eb.add ea).trans (E.of (by rw [hw]; grind)))
  have ef : E p f ((1 - d*x1*x2*y1*y2) * w) := hf.trans ((ed.sub ec).trans (E.of (by grind)))
  have eg : E p g ((1 + d*x1*x2*y1*y2) * w) := hg.trans ((ed.add ec).trans (E.of (by grind)))
  have sx : E p (x * (1 + d*x1*x2*y1*y2)) (x1*y2 + x2*y1) := s.hx
  have sy : E p (y * (1 - d*x1*x2*y1*y2)) (y1*y2 + x1*x2) := s.hy
  have hw0 : ¬ p ∣ w := by rw [hw]; exact C.pr3 C.two (C.pr3 r1.hz r2.hz)
  have k1 : ¬ p ∣ g := fun h => C.pr3 (den1 C o1 o2) hw0 (eg.dvd h)
  have k2 : ¬ p ∣ f := fun h => C.pr3 (den2 C o1 o2) hw0 (ef.dvd h)
  have ax : E p e (x * g) := ee.trans (((sx.symm.mul (E.refl p w)).trans (E.of (by grind))).trans ((E.refl p x).mul eg.symm))
  have ay : E p h (y * f) := eh.trans (((sy.symm.mul (E.refl p w)).trans (E.of (by grind))).trans ((E.refl p y).mul ef.symm))
  refine ⟨fun h => C.pr3 k2 k1 (hZ.dvd h), ?_, ?_, ?_⟩
  · exact hX.trans ((ax.mul (E.refl p f)).trans ((E.of (by grind)).trans ((E.refl p x).mul hZ.symm)))
  · exact hY.trans (((E.refl p g).mul ay).trans ((E.of (by grind)).trans ((E.refl p y).mul hZ.symm)))
  · exact hT.trans ((ax.mul ay).trans ((E.of (by grind)).trans ((E.refl p (x * y)).mul hZ.symm)))
theorem Rep.uniq {p d i X Y Z T x y x' y' : Int} (C : Cv p d i) (h : Rep p X Y Z T x y) (h' : Rep p X Y Z T x' y') : E p x x' ∧ E p y y' := by
  have k1 : p ∣ (x - x') * Z := by
    rw [Int.sub_mul]; exact h.hx.symm.trans h'.hx
  have k2 : p ∣ (y - y') * Z := by
    rw [Int.sub_mul]; exact h.hy.symm.trans h'.hy
  exact ⟨(C.pr _ _ k1).elim id (fun e => absurd e h.hz), (C.pr _ _ k2).elim id (fun e => absurd e h.hz)⟩
structure Pt (p d : Int) where
  x : Int
  y : Int
  hx : 0 ≤ x ∧ x < p
  hy : 0 ≤ y ∧ y < p
  on : On p d x y
theorem Pt.eq {p d : Int} {P Q : Pt p d} (h : P.x = Q.x) (k : P.y = Q.y) : P = Q := by
  cases P; cases Q; simp at h k; subst h; subst k; rfl
def Inv (p : Int) (iv : Int → Int) : Prop := ∀ u, ¬ p ∣ u → E p (u * iv u) 1
def sx (p d : Int) (iv : Int → Int) (x1 y1 x2 y2 : Int) : Int := ((x1*y2 + x2*y1) * iv (1 + d*x1*x2*y1*y2)) % p
def sy (p d : Int) (iv : Int → Int) (x1 y1 x2 y2 : Int) : Int := ((y1*y2 + x1*x2) * iv (1 - d*x1*x2*y1*y2)) % p
theorem sm {p d i : Int} (C : Cv p d i) {iv : Int → Int} (hI : Inv p iv) {x1 y1 x2 y2 : Int} (o1 : On p d x1 y1) (o2 : On p d x2 y2) : Sm p d x1 y1 x2 y2 (sx p d iv x1 y1 x2 y2) (sy p d iv x1 y1 x2 y2) := by
  constructor
  · have h := hI _ (den1 C o1 o2)
    have k : E p (sx p d iv x1 y1 x2 y2 * (1 + d*x1*x2*y1*y2)) (x1*y2 + x2*y1) :=
      ((E.emod p _).mul (E.refl p _)).trans ((E.of (by grind)).trans (((E.refl p (x1*y2 + x2*y1)).mul h).trans (E.of (by grind))))
    exact k
  · have h := hI _ (den2 C o1 o2)
    have k : E p (sy p d iv x1 y1 x2 y2 * (1 - d*x1*x2*y1*y2)) (y1*y2 + x1*x2) :=
      ((E.emod p _).mul (E.refl p _)).trans ((E.of (by grind)).trans (((E.refl p (y1*y2 + x1*x2)).mul h).trans (E.of (by grind))))
    exact k
structure Cu (p d i : Int) (iv : Int → Int) : Prop where
  c : Cv p d i
  v : Inv p iv
  p1 : 1 < p
def Pt.add {p d i : Int} {iv : Int → Int} (C : Cu p d i iv) (P Q : Pt p d) : Pt p d where
  x := sx p d iv P.x P.y Q.x Q.y
  y := sy p d iv P.x P.y Q.x Q.y
  hx := ⟨Int.emod_nonneg _ (by have := C.p1; omega), Int.emod_lt_of_pos _ (by have := C.p1; omega)⟩
  hy := ⟨Int.emod_nonneg _ (by have := C.p1; omega), Int.emod_lt_of_pos _ (by have := C.p1; omega)⟩
  on := clos C.c P.on Q.on (sm C.c C.v P.on Q.on)
def Pt.zero {p d i : Int} {iv : Int → Int} (C : Cu p d i iv) : Pt p d where
  x := 0
  y := 1
  hx := ⟨Int.le_refl _, by have := C.p1; omega⟩
  hy := ⟨by omega, C.p1⟩
  on := ⟨0, by omega⟩
section
variable {p d i : Int} {iv : Int → Int} (C : Cu p d i iv)
theorem Pt.sum (P Q : Pt p d) : Sm p d P.x P.y Q.x Q.y (Pt.add C P Q).x (Pt.add C P Q).y := sm C.c C.v P.on Q.on
theorem Pt.is_sum {P Q R : Pt p d} (h : Sm p d P.x P.y Q.x Q.y R.x R.y) : R = Pt.add C P Q := by
  obtain ⟨h1, h2⟩ := uniq C.c P.on Q.on h (Pt.sum C P Q)
  exact Pt.eq (E.can h1 R.hx (Pt.add C P Q).hx) (E.can h2 R.hy (Pt.add C P Q).hy)
theorem Pt.comm (P Q : Pt p d) : Pt.add C P Q = Pt.add C Q P := by
  refine Pt.is_sum C ?_
  obtain ⟨h1, h2⟩ := Pt.sum C P Q
  constructor
  · rw [show d*Q.x*P.x*Q.y*P.y = d*P.x*Q.x*P.y*Q.y by grind, show Q.x*P.y + P.x*Q.y = P.x*Q.y + Q.x*P.y by grind]; exact h1
  · rw [show d*Q.x*P.x*Q.y*P.y = d*P.x*Q.x*P.y*Q.y by grind, show Q.y*P.y + Q.x*P.x = P.y*Q.y + P.x*Q.x by grind]; exact h2
theorem Pt.assoc (P Q R : Pt p d) : Pt.add C (Pt.add C P Q) R = Pt.add C P (Pt.add C Q R) := by
  obtain ⟨h1, h2⟩ := Edw.assoc C.c P.on Q.on R.on (Pt.sum C P Q) (Pt.sum C (Pt.add C P Q) R) (Pt.sum C Q R) (Pt.sum C P (Pt.add C Q R))
  exact Pt.eq (E.can h1 (Pt.hx _) (Pt.hx _)) (E.can h2 (Pt.hy _) (Pt.hy _))
theorem Pt.add_zero (P : Pt p d) : Pt.add C P (Pt.zero C) = P := by
  refine (Pt.is_sum C ?_).symm
  show Sm p d P.x P.y 0 1 P.x P.y
  constructor
  · exact ⟨0, by grind⟩
  · exact ⟨0, by grind⟩
theorem Pt.zero_add (P : Pt p d) : Pt.add C (Pt.zero C) P = P := by rw [Pt.comm, Pt.add_zero]
def Pt.mul (P : Pt p d) : Nat → Pt p d
  | 0 => Pt.zero C
  | n + 1 => Pt.add C (Pt.mul P n) P
theorem Pt.mul_add (P : Pt p d) (m n : Nat) : Pt.mul C P (m + n) = Pt.add C (Pt.mul C P m) (Pt.mul C P n) := by
  induction n with
  | zero => exact (Pt.add_zero C _).symm
  | succ n ih =>
    show Pt.add C (Pt.mul C P (m + n)) P = Pt.add C _ (Pt.add C (Pt.mul C P n) P)
    rw [ih, Pt.assoc]
theorem Pt.mul_mul (P : Pt p d) (m n : Nat) : Pt.mul C P (m * n) = Pt.mul C (Pt.mul C P m) n := by
  induction n with
  | zero => rfl
  | succ n ih =>
    rw [Nat.mul_succ, Pt.mul_add, ih]; rfl
theorem Pt.mul_zero (n : Nat) : Pt.mul C (Pt.zero C) n = Pt.zero C := by
  induction n with
  | zero => rfl
  | succ n ih => show Pt.add C (Pt.mul C _ n) _ = _; rw [ih, Pt.add_zero]
theorem Pt.mul_mod (P : Pt p d) (L n : Nat) (h : Pt.mul C P L = Pt.zero C) : Pt.mul C P (n % L) = Pt.mul C P n := by
  have e : n = L * (n / L) + n % L := (Nat.div_add_mod n L).symm
  have k : Pt.mul C P n = Pt.mul C P (L * (n / L) + n % L) := congrArg _ e
  rw [k, Pt.mul_add, Pt.mul_mul, h, Pt.mul_zero, Pt.zero_add]
theorem Pt.dbl (P : Pt p d) (n : Nat) : Pt.add C (Pt.mul C P n) (Pt.mul C P n) = Pt.mul C P (2 * n) := by
  rw [← Pt.mul_add]; congr 1; omega
end
end Go.Proofs.Ytlajcahlmbjmnaa.Edw
namespace Go.Proofs.Ytlajcahlmbjmnaa.Prime
def PP : Nat := 57896044618658097711785492504343953926634992332820282019728792003956564819949
def Q1 : Nat := 74058212732561358302231226437062788676166966415465897661863160754340907
def Q2 : Nat := 75445702479781427272750846543864801
def Q3 : Nat := 1919519569386763
theorem pr_127 : Pr 127 := prime_tri 11 (by decide) (by decide) (by decide +kernel)
theorem pr_8574133 : Pr 8574133 := prime_tri 2930 (by decide) (by decide) (by decide +kernel)
theorem pr_75707 : Pr 75707 := prime_tri 300 (by decide) (by decide) (by decide +kernel)
theorem pr_1923133 : Pr 1923133 := prime_tri 1400 (by decide) (by decide) (by decide +kernel)
theorem pr_ne {p q : Nat} (hp : Pr p) (hq : Pr q) (h : (q == p) = false) : Nat.Coprime p q := hp.coprime (fun hd => by
  rcases hq.2 p hd with e | e
  · have := hp.1; omega
  · subst e; simp at h)
theorem two {n p q : Nat} (a k : Nat) (hn : 1 < n) (hp : Pr p) (hq : Pr q) (hpq : (q == p) = false) (hF : n < (p * q + 1) * (p * q + 1)) (hk : n < 2 ^ k) (d1 : (n - 1) % p = 0) (d2 : (n - 1) % q = 0)
    (h1 : pm k a (n - 1) n = 1) (g1 : Nat.gcd (pm k a ((n - 1) / p) n + (n - 1)) n = 1) (g2 : Nat.gcd (pm k a ((n - 1) / q) n + (n - 1)) n = 1) : Pr n := by
  have lt : ∀ x, (n - 1) / x < 2 ^ k := fun x => Nat.lt_of_le_of_lt (Nat.div_le_self _ _) (by omega)
  rw [pm_eq n k a _ (by omega)] at h1
  rw [pm_eq n k a _ (lt _)] at g1 g2
  exact prime_of hn hF (fun r hr hrn => (pr_ne hp hq hpq).mul_dvd_of_dvd_of_dvd (pock hn hp (Nat.dvd_of_mod_eq_zero d1) h1 g1 hr hrn) (pock hn hq (Nat.dvd_of_mod_eq_zero d2) h1 g2 hr hrn))
theorem one {n p : Nat} (a k : Nat) (hn : 1 < n) (hp : Pr p) (hF : n < (p + 1) * (p + 1)) (hk : n < 2 ^ k) (d1 : (n - 1) % p = 0)
    (h1 : pm k a (n - 1) n = 1) (g1 : Nat.gcd (pm k a ((n - 1) / p) n + (n - 1)) n = 1) : Pr n := by
  have lt : ∀ x, (n - 1) / x < 2 ^ k := fun x => Nat.lt_of_le_of_lt (Nat.div_le_self _ _) (by omega)
  rw [pm_eq n k a _ (by omega)] at h1
  rw [pm_eq n k a _ (lt _)] at g1
  exact prime_of hn hF (fun r hr hrn => pock hn hp (Nat.dvd_of_mod_eq_zero d1) h1 g1 hr hrn)
theorem pr_Q3 : Pr Q3 := two 2 51 (by decide +kernel) pr_8574133 pr_127 (by decide +kernel) (by decide +kernel) (by decide +kernel) (by decide +kernel) (by decide +kernel) (by decide +kernel) (by decide +kernel) (by decide +kernel)
theorem pr_Q2 : Pr Q2 := two 2 116 (by decide +kernel) pr_Q3 pr_75707 (by decide +kernel) (by decide +kernel) (by decide +kernel) (by decide +kernel) (by decide +kernel) (by decide +kernel) (by decide +kernel) (by decide +kernel)
theorem pr_Q1 : Pr Q1 := two 2 236 (by decide +kernel) pr_Q2 pr_1923133 (by decide +kernel) (by decide +kernel) (by decide +kernel) (by decide +kernel) (by decide +kernel) (by decide +kernel) (by decide +kernel) (by decide +kernel)
theorem pr_PP : Pr PP := one 2 255 (by decide +kernel) pr_Q1 (by decide +kernel) (by decide +kernel) (by decide +kernel) (by decide +kernel) (by decide +kernel)
end Go.Proofs.Ytlajcahlmbjmnaa.Prime
namespace Go.Proofs.Ytlajcahlmbjmnaa.EdP
open Go.Proofs.Ytlajcahlmbjmnaa.Edw Go.Proofs.Ytlajcahlmbjmnaa.Prime
def dN : Nat := 37095705934669439343138083508754565189542113879843219016388785533085940283555
def iN : Nat := 19681161376707505956807079304988542015446066515923890162744021073123829784752
def bX : Nat := 15112221349535400772501151409588531511454012693041857206046113283949847762202
def bY : Nat := 46316835694926478169428394003475163141307993866256225615783033603165251855960
def ordN : Nat := 7237005577332262213973186563042994240857116359379907606001950938285454250989
def ivN (p : Nat) (u : Int) : Int := (((u % (p : Int)).toNat ^ (p - 2) % p : Nat) : Int)
theorem toNat_mod (p : Nat) (hp : 0 < p) (u : Int) : (((u % (p : Int)).toNat : Nat) : Int) = u % (p : Int) := Int.toNat_of_nonneg (Int.emod_nonneg _ (by omega))
theorem ndvd (p : Nat) (hp : 0 < p) (u : Int) (h : ¬ (p : Int) ∣ u) : ¬ p ∣ (u % (p : Int)).toNat := by
  intro k
  have k' : (p : Int) ∣ (((u % (p : Int)).toNat : Nat) : Int) := Int.natCast_dvd_natCast.2 k
  rw [toNat_mod p hp] at k'
  exact h ((E.emod (p : Int) u).dvd k')
theorem E_of_mod {p a b : Nat} (h : a % p = b % p) : E (p : Int) (a : Int) (b : Int) := by
  have h1 := E.emod (p : Int) (a : Int)
  have h2 := E.emod (p : Int) (b : Int)
  have h3 : (a : Int) % (p : Int) = (b : Int) % (p : Int) := by rw [← Int.natCast_emod, ← Int.natCast_emod, h]
  rw [h3] at h1
  exact h1.symm.trans h2
theorem inv_of {p : Nat} (hp : Pr p) : Edw.Inv (p : Int) (ivN p) := by
  intro u hu
  have h1 := hp.1
  have ha := ndvd p (by omega) u hu
  have hu2 := toNat_mod p (by omega) u
  unfold ivN
  generalize (u % (p : Int)).toNat = a at *
  have hf := fermat hp ha
  have e1 : E (p : Int) u (a : Int) := by rw [hu2]; exact (E.emod _ _).symm
  have e2 : E (p : Int) ((a ^ (p - 2) % p : Nat) : Int) ((a ^ (p - 2) : Nat) : Int) := E_of_mod (by rw [Nat.mod_mod])
  refine (e1.mul e2).trans ?_
  have e3 : ((a : Nat) : Int) * ((a ^ (p - 2) : Nat) : Int) = ((a ^ (p - 1) : Nat) : Int) := by
    rw [← Int.natCast_mul]; congr 1
    rw [show p - 1 = (p - 2) + 1 by omega, Nat.pow_succ, Nat.mul_comm]
  rw [e3]
  exact E_of_mod (p := p) (b := 1) (by rw [hf, Nat.mod_eq_of_lt h1])
theorem dvd_abs (p : Nat) (a : Int) : (p : Int) ∣ a ↔ p ∣ a.natAbs := by
  have := @Int.natAbs_dvd_natAbs (p : Int) a
  simpa using this.symm
theorem prI {p : Nat} (hp : Pr p) (a b : Int) (h : (p : Int) ∣ a * b) : (p : Int) ∣ a ∨ (p : Int) ∣ b := by
  have h1 : p ∣ a.natAbs * b.natAbs := by
    rw [← Int.natAbs_mul]; exact (dvd_abs p _).1 h
  exact (hp.dvd_mul h1).imp (dvd_abs p _).2 (dvd_abs p _).2
theorem ns_of {p : Nat} (hp : Pr p) (d m : Nat) (h2 : ¬ p ∣ 2) (hm : m + m = p - 1) (he : d ^ m % p = p - 1) (s t : Int) (h : (p : Int) ∣ s * s - (d : Int) * (t * t)) : (p : Int) ∣ t := by
  have h1 := hp.1
  refine Classical.byContradiction fun ht => ?_
  have hd : ¬ p ∣ d := by
    intro k
    have hm0 : m ≠ 0 := by
      intro e; subst e
      have : p = 1 := by omega
      omega
    have k2 : p ∣ d ^ m := Nat.dvd_trans k (by obtain ⟨j, rfl⟩ := Nat.exists_eq_succ_of_ne_zero hm0; exact ⟨d ^ j, by rw [Nat.pow_succ, Nat.mul_comm]⟩)
    have := Nat.mod_eq_zero_of_dvd k2
    omega
  have ha := ndvd p (by omega) t ht
  have et : E (p : Int) t ((t % (p : Int)).toNat : Int) := by rw [toNat_mod p (by omega)]; exact (E.emod _ _).symm
  have es : E (p : Int) s ((s % (p : Int)).toNat : Int) := by rw [toNat_mod p (by omega)]; exact (E.emod _ _).symm
  generalize (t % (p : Int)).toNat = b at *
  generalize (s % (p : Int)).toNat = a at *
  have hab : E (p : Int) ((a * a : Nat) : Int) ((d * (b * b) : Nat) : Int) := by
    have h0 : E (p : Int) (s * s) ((d : Int) * (t * t)) := h
    have := ((es.mul es).symm.trans h0).trans ((E.refl (p : Int) (d : Int)).mul (et.mul et))
    rw [Int.natCast_mul, Int.natCast_mul, Int.natCast_mul]; exact this
  have hmod : a * a % p = d * (b * b) % p := by
    have h3 : ((a * a : Nat) : Int) % (p : Int) = ((d * (b * b) : Nat) : Int) % (p : Int) := Int.emod_eq_emod_iff_emod_sub_eq_zero.2 (Int.emod_eq_zero_of_dvd hab)
    exact Int.ofNat.inj (by rw [← Int.natCast_emod, ← Int.natCast_emod] at h3; exact h3)
  have hna : ¬ p ∣ a := by
    intro k
    have k1 : p ∣ a * a := Nat.dvd_trans k ⟨a, rfl⟩
    have k2 : p ∣ d * (b * b) := Nat.dvd_of_mod_eq_zero (by rw [← hmod]; exact Nat.mod_eq_zero_of_dvd k1)
    rcases hp.dvd_mul k2 with k3 | k3
    · exact hd k3
    · rcases hp.dvd_mul k3 with k4 | k4 <;> exact ha k4
  have f1 := fermat hp hna
  have f2 := fermat hp ha
  have g : (a * a) ^ m % p = (d * (b * b)) ^ m % p := by rw [Nat.pow_mod, hmod, ← Nat.pow_mod]
  rw [← Nat.pow_two, ← Nat.pow_mul, show 2 * m = p - 1 by omega, f1, Nat.mul_pow, ← Nat.pow_two, ← Nat.pow_mul, show 2 * m = p - 1 by omega, Nat.mul_mod, he, f2, Nat.mul_one, Nat.mod_eq_of_lt (by omega)] at g
  exact h2 ⟨1, by omega⟩
theorem cv_of {p : Nat} (hp : Pr p) (d i m : Nat) (h2 : ¬ p ∣ 2) (hm : m + m = p - 1) (he : d ^ m % p = p - 1) (hi : (i * i + 1) % p = 0) : Cu (p : Int) (d : Int) (i : Int) (ivN p) where
  c := { pr := prI hp, ns := ns_of hp d m h2 hm he,
         im := by
           have := Int.natCast_dvd_natCast.2 (Nat.dvd_of_mod_eq_zero hi)
           simpa using this
         two := fun h => h2 (Int.natCast_dvd_natCast.1 (by simpa using h)) }
  v := inv_of hp
  p1 := by have := hp.1; omega
def mN : Nat := (PP - 1) / 2
theorem euler_d : dN ^ mN % PP = PP - 1 := by
  rw [← pm_eq PP 255 dN mN (by decide +kernel)]
  decide +kernel
theorem cu : Cu (PP : Int) (dN : Int) (iN : Int) (ivN PP) := cv_of pr_PP dN iN mN (by decide +kernel) (by decide +kernel) euler_d (by decide +kernel)
structure Q4 where
  x : Nat
  y : Nat
  z : Nat
  t : Nat
def fm (a b : Nat) : Nat := a * b % PP
def fa (a b : Nat) : Nat := (a + b) % PP
def fs (a b : Nat) : Nat := (a + PP - b) % PP
def addI (P Q : Q4) : Q4 :=
  let a := fa (fm P.x Q.y) (fm Q.x P.y)
  let b := fa (fm P.y Q.y) (fm P.x Q.x)
  let z := fm P.z Q.z
  let own := fm (fm dN P.t) Q.t
  let one := fa z own
  let two := fs z own
  ⟨fm a two, fm b one, fm one two, fm a b⟩
theorem E_fm (a b : Nat) : E (PP : Int) (fm a b : Nat) ((a : Int) * (b : Int)) := by
  rw [← Int.natCast_mul]; exact E_of_mod (Nat.mod_mod _ _)
theorem E_fa (a b : Nat) : E (PP : Int) (fa a b : Nat) ((a : Int) + (b : Int)) := by
  rw [← Int.natCast_add]; exact E_of_mod (Nat.mod_mod _ _)
theorem E_fs (a b : Nat) (hb : b ≤ PP) : E (PP : Int) (fs a b : Nat) ((a : Int) - (b : Int)) := by
  have h : E (PP : Int) (fs a b : Nat) ((a + PP - b : Nat) : Int) := E_of_mod (Nat.mod_mod _ _)
  refine h.trans ⟨1, ?_⟩
  rw [Int.mul_one]; omega
theorem fm_lt (a b : Nat) : fm a b < PP := Nat.mod_lt _ (by decide +kernel)
theorem fa_lt (a b : Nat) : fa a b < PP := Nat.mod_lt _ (by decide +kernel)
theorem fs_lt (a b : Nat) : fs a b < PP := Nat.mod_lt _ (by decide +kernel)
abbrev PtP := Edw.Pt (PP : Int) (dN : Int)
def Is (Q : Q4) (P : PtP) : Prop := Rep (PP : Int) Q.x Q.y Q.z Q.t P.x P.y
theorem is_add {A B : Q4} {P Q : PtP} (h : Is A P) (k : Is B Q) : Is (addI A B) (Pt.add cu P Q) := by
  refine Rep.plusI cu.c P.on Q.on h k (Pt.sum cu P Q) (a := (fa (fm A.x B.y) (fm B.x A.y) : Nat)) (b := (fa (fm A.y B.y) (fm A.x B.x) : Nat)) (z := (fm A.z B.z : Nat)) (own := (fm (fm dN A.t) B.t : Nat)) (one := (fa (fm A.z B.z) (fm (fm dN A.t) B.t) : Nat)) (two := (fs (fm A.z B.z) (fm (fm dN A.t) B.t) : Nat)) ?_ ?_ (E_fm _ _) ?_ (E_fa _ _) (E_fs _ _ (Nat.le_of_lt (fm_lt _ _))) (E_fm _ _) (E_fm _ _) (E_fm _ _) (E_fm _ _)
  · exact (E_fa _ _).trans ((E_fm _ _).add (E_fm _ _))
  · exact (E_fa _ _).trans ((E_fm _ _).add (E_fm _ _))
  · exact (E_fm _ _).trans ((E_fm _ _).mul (E.refl _ _))
def zeroI : Q4 := ⟨0, 1, 1, 0⟩
theorem is_zero : Is zeroI (Pt.zero cu) := ⟨fun h => cu.c.one h, ⟨0, by decide⟩, ⟨0, by decide⟩, ⟨0, by decide⟩⟩
def tmI (k : Nat) (P : Q4) : Nat → Q4
  | 0 => zeroI
  | i + 1 => let D := addI (tmI k P i) (tmI k P i)
    if k / 2 ^ (255 - i) % 2 = 1 then addI D P else D
theorem is_tm (k : Nat) {A : Q4} {P : PtP} (h : Is A P) (i : Nat) (hi : i ≤ 256) : Is (tmI k A i) (Pt.mul cu P (k / 2 ^ (256 - i) % 2 ^ i)) := by
  induction i with
  | zero =>
    rw [Nat.pow_zero, Nat.mod_one]; exact is_zero
  | succ i ih =>
    have ih := ih (by omega)
    have e : k / 2 ^ (256 - (i + 1)) % 2 ^ (i + 1) = 2 * (k / 2 ^ (256 - i) % 2 ^ i) + k / 2 ^ (255 - i) % 2 := by
      rw [show 256 - (i + 1) = 255 - i by omega, show 256 - i = (255 - i) + 1 by omega, Nat.pow_succ 2 (255 - i), ← Nat.div_div_eq_div_mul]
      generalize k / 2 ^ (255 - i) = m
      rw [Nat.pow_succ, Nat.mul_comm (2 ^ i) 2, Nat.mod_mul]
      omega
    have hd := is_add ih ih
    rw [Pt.dbl] at hd
    rw [e]
    show Is (if k / 2 ^ (255 - i) % 2 = 1 then addI (addI (tmI k A i) (tmI k A i)) A else addI (tmI k A i) (tmI k A i)) _
    rcases Nat.mod_two_eq_zero_or_one (k / 2 ^ (255 - i)) with h0 | h0
    · rw [h0, if_neg (by decide), Nat.add_zero]; exact hd
    · rw [h0, if_pos rfl]
      exact is_add hd h
theorem is_times (k : Nat) (hk : k < 2 ^ 256) {A : Q4} {P : PtP} (h : Is A P) : Is (tmI k A 256) (Pt.mul cu P k) := by
  have := is_tm k h 256 (Nat.le_refl _)
  rw [Nat.sub_self, Nat.pow_zero, Nat.div_one, Nat.mod_eq_of_lt hk] at this
  exact this
def base4 : Q4 := ⟨bX, bY, 1, fm bX bY⟩
theorem on_base : On (PP : Int) (dN : Int) (bX : Int) (bY : Int) := by
  show (PP : Int) ∣ _
  exact Int.dvd_of_emod_eq_zero (by decide +kernel)
def baseP : PtP where
  x := bX
  y := bY
  hx := by decide +kernel
  hy := by decide +kernel
  on := on_base
theorem is_base : Is base4 baseP := ⟨fun h => cu.c.one h, E.of (Int.mul_one _).symm, E.of (Int.mul_one _).symm, (E_fm _ _).trans (E.of (Int.mul_one _).symm)⟩
theorem ord_num : (tmI ordN base4 256).x = 0 ∧ (tmI ordN base4 256).y = (tmI ordN base4 256).z := by decide +kernel
theorem order : Pt.mul cu baseP ordN = Pt.zero cu := by
  have h := is_times ordN (by decide +kernel) is_base
  obtain ⟨hx, hy⟩ := ord_num
  generalize tmI ordN base4 256 = Q at *
  have z : Rep (PP : Int) Q.x Q.y Q.z Q.t (Pt.mul cu baseP ordN).x (Pt.mul cu baseP ordN).y := h
  have e1 : (PP : Int) ∣ (Pt.mul cu baseP ordN).x * (Q.z : Int) := by
    have k := z.hx
    rw [hx] at k
    exact k.dvd ⟨0, by simp⟩
  have e2 : (PP : Int) ∣ ((Pt.mul cu baseP ordN).y - 1) * (Q.z : Int) := by
    have k := z.hy.symm
    rw [hy] at k
    rw [Int.sub_mul, Int.one_mul]; exact k
  have k1 := (cu.c.pr _ _ e1).elim id (fun e => absurd e z.hz)
  have k2 := (cu.c.pr _ _ e2).elim id (fun e => absurd e z.hz)
  refine Pt.eq ?_ ?_
  · exact E.can (p := (PP : Int)) (show E (PP : Int) _ 0 by rw [E, Int.sub_zero]; exact k1) (Pt.hx _) (Pt.hx (Pt.zero cu))
  · exact E.can (p := (PP : Int)) k2 (Pt.hy _) (Pt.hy (Pt.zero cu))
end Go.Proofs.Ytlajcahlmbjmnaa.EdP
