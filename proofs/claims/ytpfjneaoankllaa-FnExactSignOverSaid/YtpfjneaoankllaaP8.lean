/- One line of coefficients. -/
import Derived.Test.YtpfjneaoankllaaP7
set_option linter.unusedVariables false
set_option linter.unusedSimpArgs false
set_option maxRecDepth 100000
namespace Go.Proofs.Ytpfjneaoankllaa.Z
open Go.Proofs.Ytpfjneaoankllaa.Ev
noncomputable section
/-- The weight of coefficient j in Bernstein coefficient i, times the common multiple. -/
def MV (d i j : Nat) : Int := ((chN i j : Nat) : Int) * (mulF (d : Int)).tdiv ((chN d j : Nat) : Int)
theorem MV_out {d i j : Nat} (h : i < j) : MV d i j = 0 := by
  unfold MV
  rw [chN_out i j h]
  simp
theorem quo_tab (d j : Nat) (hd : d ≤ 4) (hj : j ≤ d) : quo .i64 (mulF (d : Int)) ((chN d j : Nat) : Int) = (mulF (d : Int)).tdiv ((chN d j : Nat) : Int) ∧ ((chN d j : Nat) : Int) ≠ 0 := by
  have h1 : d = 0 ∨ d = 1 ∨ d = 2 ∨ d = 3 ∨ d = 4 := by omega
  have h2 : j = 0 ∨ j = 1 ∨ j = 2 ∨ j = 3 ∨ j = 4 := by omega
  rcases h1 with rfl | rfl | rfl | rfl | rfl <;> rcases h2 with rfl | rfl | rfl | rfl | rfl <;> first | omega | exact ⟨by decide, by decide⟩
theorem one_l8 {R : Type} (n : Nat) (line out : List Int) (d i : Nat) (x11 x12 : Int) (K0 : List Int → List Int → Int → Int → Int → Int → Option R) (hlen : line.length = d + 1) (hd : d ≤ 4) (hi : i ≤ d) (hn : 1000001 < n) :
    ∀ (c k j : Nat) (s : Int), i + 1 - j = c → j ≤ i + 1 → c < k → InR s →
    ∃ s', fn_spec_beOne.l8 n k line out (d : Int) (i : Int) s (j : Int) x11 x12 K0 = K0 line out (d : Int) s' x11 x12 ∧ InR s' ∧ eqm s' (s + sumF (fun j => MV d i j * cf line j) j c) := by
  intro c
  induction c with
  | zero =>
    intro k j s hc hj hk hs
    obtain ⟨k, rfl⟩ : ∃ m, k = m + 1 := ⟨k - 1, by omega⟩
    refine ⟨s, ?_, hs, by simp only [sumF]; rw [Int.add_zero]; exact eqm_refl _⟩
    simp only [fn_spec_beOne.l8]
    rw [leI_f (x := (j : Int)) (y := (i : Int)) (by omega), br_f]
  | succ c ih =>
    intro k j s hc hj hk hs
    obtain ⟨k, rfl⟩ : ∃ m, k = m + 1 := ⟨k - 1, by omega⟩
    obtain ⟨q1, q2⟩ := quo_tab d j hd (by omega)
    obtain ⟨s', h1, h2, h3⟩ := ih k (j + 1) (add .i64 s (mul .i64 (mul .i64 ((chN i j : Nat) : Int) ((mulF (d : Int)).tdiv ((chN d j : Nat) : Int))) (rd I64 line j))) (by omega) (by omega) (by omega) (add_inR _ _)
    refine ⟨s', ?_, h2, ?_⟩
    · simp only [fn_spec_beOne.l8]
      rw [leI_t (x := (j : Int)) (y := (i : Int)) (by omega), br_t, okIx_t (by omega) (by rw [ilen_eq]; omega), br_t, sCh_f n i j (by omega) (by omega) (by omega), Option.bind_some, fac_f n (d : Int) (by omega) (by omega), Option.bind_some, sCh_f n d j hd (by omega) (by omega), Option.bind_some, eqI_f q2, br_f, q1, nat_cast, add_one j (by omega)]
      exact h1
    · refine h3.trans ?_
      simp only [sumF]
      rw [← Int.add_assoc]
      refine eqm.add ((eqm_add _ _).trans ((eqm_refl _).add ((eqm_mul _ _).trans ?_))) (eqm_refl _)
      unfold MV
      exact (eqm_mul _ _).mul (eqm_refl _)
theorem one_l4 {R : Type} (n : Nat) (line : List Int) (d : Nat) (K0 : List Int → Option R) (hlen : line.length = d + 1) (hd : d ≤ 4) (hn : 1000001 < n) :
    ∀ (c k i : Nat) (out : List Int), d + 1 - i = c → i ≤ d + 1 → c < k → out.length = i → AllR out → (∀ m, m < i → eqm (cf out m) (sumF (fun j => MV d m j * cf line j) 0 (m + 1))) →
    ∃ r, fn_spec_beOne.l4 n k line out (d : Int) (ilen line) (i : Int) K0 = K0 r ∧ r.length = d + 1 ∧ AllR r ∧ ∀ m, m < d + 1 → eqm (cf r m) (sumF (fun j => MV d m j * cf line j) 0 (m + 1)) := by
  intro c
  induction c with
  | zero =>
    intro k i out hc hi hk ho hr hm
    obtain ⟨k, rfl⟩ : ∃ m, k = m + 1 := ⟨k - 1, by omega⟩
    refine ⟨out, ?_, by omega, hr, fun m h => hm m (by omega)⟩
    simp only [fn_spec_beOne.l4]
    rw [ltI_f (by rw [ilen_eq]; omega), br_f]
  | succ c ih =>
    intro k i out hc hi hk ho hr hm
    obtain ⟨k, rfl⟩ : ∃ m, k = m + 1 := ⟨k - 1, by omega⟩
    have hin : ∀ K1, ∃ s', fn_spec_beOne.l8 n n line out (d : Int) (i : Int) 0 0 (ilen line) (i : Int) K1 = (K1 line out (d : Int) s' (ilen line) (i : Int) : Option R) ∧ InR s' ∧ eqm s' (0 + sumF (fun j => MV d i j * cf line j) 0 (i + 1)) := fun K1 =>
      one_l8 n line out d i _ _ K1 hlen hd (by omega) hn (i + 1) n 0 0 (by omega) (by omega) (by omega) (by unfold InR; omega)
    obtain ⟨s', h1, h2, h3⟩ := hin (fun z16 z17 z18 z19 z20 z21 => br (okApp (nadd (List.length z17) (List.length [z19])) 8) (fn_spec_beOne.l4 n k z16 (appL z17 [z19]) z18 z20 (add .i64 z21 1) K0) none)
    rw [Int.zero_add] at h3
    obtain ⟨r, h4, h5, h6, h7⟩ := ih k (i + 1) (appL out [s']) (by omega) (by omega) (by omega) (by simp [appL, ho]) (fun a ha => by
      unfold appL at ha
      rcases List.mem_append.1 ha with h | h
      · exact hr a h
      · simp at h; rw [h]; exact h2) (fun m h => by
      unfold appL
      rw [cf_app]
      by_cases h8 : m < out.length
      · rw [if_pos h8]; exact hm m (by omega)
      · rw [if_neg h8]
        obtain rfl : m = i := by omega
        rw [ho, Nat.sub_self]
        exact h3)
    refine ⟨r, ?_, h5, h6, h7⟩
    simp only [fn_spec_beOne.l4]
    rw [ltI_t (by rw [ilen_eq]; omega), br_t]
    refine h1.trans ?_
    rw [okApp_t (by simp [nadd]; omega), br_t, add_one i (by omega)]
    exact h4
theorem one_f (n : Nat) (line : List Int) (d : Nat) (hlen : line.length = d + 1) (hd : d ≤ 4) (hn : 1000001 < n) :
    ∃ r, fn_spec_beOne.f n line = some r ∧ r.length = d + 1 ∧ AllR r ∧ ∀ m, m < d + 1 → eqm (cf r m) (sumF (fun j => MV d m j * cf line j) 0 (m + 1)) := by
  unfold fn_spec_beOne.f
  have e : sub .i64 (ilen line) 1 = (d : Int) := by rw [ilen_eq, sub_in (by omega) (by omega)]; omega
  rw [e]
  exact one_l4 n line d (fun z => some z) hlen hd hn (d + 1) n 0 [] (by omega) (by omega) (by omega) rfl (fun a ha => by cases ha) (fun m h => by omega)
theorem line_l2 {R : Type} (n : Nat) (a at' ys : List Int) (ix : Nat → Nat) (K0 : List Int → List Int → List Int → Option R) (hL : at'.length ≤ 5) (hix : ∀ q, q < at'.length → cf at' q = (ix q : Int) ∧ ix q < a.length) :
    ∀ (c k q : Nat) (line : List Int), at'.length - q = c → q ≤ at'.length → c < k → line.length = q → (∀ m, m < q → cf line m = cf a (ix m)) →
    ∃ l', fn_spec_beLine.l2 n k a ys line at' (ilen at') (q : Int) K0 = K0 a ys l' ∧ l'.length = at'.length ∧ ∀ m, m < at'.length → cf l' m = cf a (ix m) := by
  intro c
  induction c with
  | zero =>
    intro k q line hc hq hk hl hm
    obtain ⟨k, rfl⟩ : ∃ m, k = m + 1 := ⟨k - 1, by omega⟩
    refine ⟨line, ?_, by omega, fun m h => hm m (by omega)⟩
    simp only [fn_spec_beLine.l2]
    rw [ltI_f (by rw [ilen_eq]; omega), br_f]
  | succ c ih =>
    intro k q line hc hq hk hl hm
    obtain ⟨k, rfl⟩ : ∃ m, k = m + 1 := ⟨k - 1, by omega⟩
    obtain ⟨e1, e2⟩ := hix q (by omega)
    have e1' : rd (.int .i64) at' q = (ix q : Int) := e1
    obtain ⟨l', h1, h2, h3⟩ := ih k (q + 1) (appL line [rd I64 a (ix q)]) (by omega) (by omega) (by omega) (by simp [appL, hl]) (fun m h => by
      unfold appL
      rw [cf_app]
      by_cases h8 : m < line.length
      · rw [if_pos h8]; exact hm m (by omega)
      · rw [if_neg h8]
        obtain rfl : m = q := by omega
        rw [hl, Nat.sub_self]
        rfl)
    refine ⟨l', ?_, h2, h3⟩
    simp only [fn_spec_beLine.l2]
    rw [ltI_t (by rw [ilen_eq]; omega), br_t, okIx_t (by omega) (by rw [ilen_eq]; omega), br_t, nat_cast, e1', nat_cast, okIx_t (by omega) (by rw [ilen_eq]; omega), br_t, okApp_t (by simp [nadd]; omega), br_t, add_one q (by omega)]
    exact h1
theorem line_l7 {R : Type} (n : Nat) (at' r : List Int) (ix : Nat → Nat) (N : Nat) (K0 : List Int → Option R) (hL : at'.length ≤ 5) (hr : r.length = at'.length) (hrr : AllR r) (hix : ∀ q, q < at'.length → cf at' q = (ix q : Int) ∧ ix q < N) (hinj : ∀ q q', q < at'.length → q' < at'.length → ix q = ix q' → q = q') :
    ∀ (c k q : Nat) (a : List Int), at'.length - q = c → q ≤ at'.length → c < k → a.length = N → AllR a →
    ∃ b, fn_spec_beLine.l7 n k a at' r (ilen r) (q : Int) K0 = K0 b ∧ b.length = N ∧ AllR b ∧ (∀ m, q ≤ m → m < at'.length → cf b (ix m) = cf r m) ∧ (∀ x, (∀ m, q ≤ m → m < at'.length → x ≠ ix m) → cf b x = cf a x) := by
  intro c
  induction c with
  | zero =>
    intro k q a hc hq hk ha har
    obtain ⟨k, rfl⟩ : ∃ m, k = m + 1 := ⟨k - 1, by omega⟩
    refine ⟨a, ?_, ha, har, fun m h1 h2 => by omega, fun x _ => rfl⟩
    simp only [fn_spec_beLine.l7]
    rw [ltI_f (by rw [ilen_eq]; omega), br_f]
  | succ c ih =>
    intro k q a hc hq hk ha har
    obtain ⟨k, rfl⟩ : ∃ m, k = m + 1 := ⟨k - 1, by omega⟩
    obtain ⟨e1, e2⟩ := hix q (by omega)
    have e1' : rd (.int .i64) at' q = (ix q : Int) := e1
    obtain ⟨b, h1, h2, h3, h4, h5⟩ := ih k (q + 1) (setL a (ix q) (rd I64 r q)) (by omega) (by omega) (by omega) (by rw [setL_len]; exact ha) (setL_inR har (by rw [rd_cf]; exact cf_inR hrr q))
    refine ⟨b, ?_, h2, h3, fun m h6 h7 => ?_, fun x hx => ?_⟩
    · simp only [fn_spec_beLine.l7]
      rw [ltI_t (by rw [ilen_eq]; omega), br_t, okIx_t (n := ilen r) (by omega) (by rw [ilen_eq]; omega), br_t, okIx_t (n := ilen at') (by omega) (by rw [ilen_eq]; omega), br_t, nat_cast, e1', nat_cast, okIx_t (by omega) (by rw [ilen_eq]; omega), br_t, add_one q (by omega)]
      exact h1
    · rcases Nat.lt_or_ge q m with h8 | h8
      · exact h4 m (by omega) h7
      · obtain rfl : q = m := by omega
        rw [h5 (ix q) (fun m' h9 h10 h11 => by have := hinj q m' h7 h10 h11; omega), cf_set _ _ _ _ (by omega), if_pos rfl]
        rfl
    · rw [h5 x (fun m' h9 h10 => hx m' (by omega) h10), cf_set _ _ _ _ (by omega), if_neg (hx q (Nat.le_refl _) (by omega))]
theorem line_f (n : Nat) (a at' : List Int) (ix : Nat → Nat) (d : Nat) (hd : d ≤ 4) (hL : at'.length = d + 1) (har : AllR a) (hix : ∀ q, q < d + 1 → cf at' q = (ix q : Int) ∧ ix q < a.length) (hinj : ∀ q q', q < d + 1 → q' < d + 1 → ix q = ix q' → q = q') (hn : 1000001 < n) :
    ∃ b, fn_spec_beLine.f n a at' = some b ∧ b.length = a.length ∧ AllR b ∧ (∀ m, m < d + 1 → eqm (cf b (ix m)) (sumF (fun j => MV d m j * cf a (ix j)) 0 (m + 1))) ∧ (∀ x, (∀ m, m < d + 1 → x ≠ ix m) → cf b x = cf a x) := by
  rw [← hL] at hix hinj
  obtain ⟨l', h1, h2, h3⟩ := line_l2 n a at' at' ix (fun z6 z7 z8 => (fn_spec_beOne.f n z8).bind fun y9 => fn_spec_beLine.l7 n n z6 z7 y9 (ilen y9) 0 (fun z15 => some z15)) (by omega) hix at'.length n 0 [] (by omega) (by omega) (by omega) rfl (fun m h => by omega)
  obtain ⟨r, h4, h5, h6, h7⟩ := one_f n l' d (by omega) hd hn
  obtain ⟨b, g1, g2, g3, g4, g5⟩ := line_l7 n at' r ix a.length (fun z15 => some z15) (by omega) (by omega) h6 hix hinj at'.length n 0 a (by omega) (by omega) (by omega) rfl har
  refine ⟨b, ?_, g2, g3, fun m hm => ?_, fun x hx => g5 x (fun m _ h => hx m (by omega))⟩
  · unfold fn_spec_beLine.f
    refine h1.trans ?_
    rw [h4, Option.bind_some]
    exact g1
  · rw [g4 m (Nat.zero_le _) (by omega)]
    refine (h7 m hm).trans ?_
    rw [sumF_congr (g := fun j => MV d m j * cf a (ix j))]
    · exact eqm_refl _
    · intro j _ hj
      rw [h3 j (by omega)]
end
end Go.Proofs.Ytpfjneaoankllaa.Z
