/- Both sides agree. -/
import Derived.Test.YtpfjneaoankllaaPB
import Derived.Test.YtpfjneaoankllaaPE
set_option linter.unusedVariables false
set_option linter.unusedSimpArgs false
set_option maxRecDepth 100000
namespace Go.Proofs.Ytpfjneaoankllaa.Z
open Go.Proofs.Ytpfjneaoankllaa.Ev
noncomputable section
theorem dec_at {d0 d1 d2 m : Nat} (h : m < (d0 + 1) * (d1 + 1) * (d2 + 1)) : ∃ x y z, x ≤ d0 ∧ y ≤ d1 ∧ z ≤ d2 ∧ m = atN d1 d2 x y z := by
  refine ⟨m / (d2 + 1) / (d1 + 1), m / (d2 + 1) % (d1 + 1), m % (d2 + 1), ?_, ?_, ?_, ?_⟩
  · have h1 : m / (d2 + 1) < (d0 + 1) * (d1 + 1) := (Nat.div_lt_iff_lt_mul (Nat.succ_pos d2)).2 h
    have h2 : m / (d2 + 1) / (d1 + 1) < d0 + 1 := (Nat.div_lt_iff_lt_mul (Nat.succ_pos d1)).2 h1
    omega
  · exact Nat.le_of_lt_succ (Nat.mod_lt (m / (d2 + 1)) (Nat.succ_pos d1))
  · exact Nat.le_of_lt_succ (Nat.mod_lt m (Nat.succ_pos d2))
  · unfold atN
    rw [Nat.div_add_mod', Nat.div_add_mod']
theorem prodF_3 (f : Nat → Int) (c : Int) (s : Nat) (hs : s ≤ 3) (h : ∀ k, s ≤ k → k < 3 → f k = 1) : prodF f c 0 s = c * f 0 * f 1 * f 2 := by
  have e := prodF_app f s (3 - s) 0 c
  rw [Nat.add_sub_cancel' hs, Nat.zero_add, prodF_ones (fun k h1 h2 => h k h1 (by omega))] at e
  exact e.symm
theorem ptV_00 (l h : Int) : ptV l h 0 0 = 1 := by unfold ptV; simp [chN]
theorem MV_00 : MV 0 0 0 = 1 := by decide
theorem AV_GV (p : List Tm) (b : Bx) (s x y z : Nat) (hs : s ≤ 3) (h0 : ∀ i k, i < p.length → s ≤ k → k < 3 → eN p i k = 0) (hz : ∀ k, s ≤ k → k < 3 → dig x y z k = 0) : AV p b s (dig x y z) 0 p.length = GV p b x y z := by
  unfold AV GV
  refine sumF_congr fun i _ hi => ?_
  rw [prodF_3 _ _ s hs (fun k h1 h2 => ?_)]
  · rfl
  · have hk : k = 0 ∨ k = 1 ∨ k = 2 := by omega
    have e := h0 i k (by omega) h1 h2
    rw [hz k h1 h2]
    rcases hk with rfl | rfl | rfl
    · show ptV _ _ (eN p i 0) 0 = 1
      rw [e]; exact ptV_00 _ _
    · show ptV _ _ (eN p i 1) 0 = 1
      rw [e]; exact ptV_00 _ _
    · show ptV _ _ (eN p i 2) 0 = 1
      rw [e]; exact ptV_00 _ _
/-- All Bernstein coefficients: the sums told as one. -/
theorem BV_full (p : List Tm) (b : Bx) {d0 d1 d2 x y z : Nat} (hx : x ≤ d0) (hy : y ≤ d1) (hz : z ≤ d2) :
    BV p b d0 d1 d2 x y z = sumF (fun i => sumF (fun j => sumF (fun l => GV p b i j l * MV d0 x i * MV d1 y j * MV d2 z l) 0 (d2 + 1)) 0 (d1 + 1)) 0 (d0 + 1) := by
  unfold BV
  rw [← sumF_cut (d := x + 1) (e := d0 + 1) (fun i hi => by rw [MV_out (by omega)]; simp) (by omega)]
  refine sumF_congr fun i _ _ => ?_
  rw [← sumF_cut (d := y + 1) (e := d1 + 1) (fun j hj => by rw [MV_out (by omega)]; simp) (by omega), sumF_mull]
  refine sumF_congr fun j _ _ => ?_
  rw [← sumF_cut (d := z + 1) (e := d2 + 1) (fun l hl => by rw [MV_out (by omega)]; simp) (by omega), sumF_mull, sumF_mull]
  refine sumF_congr fun l _ _ => ?_
  ac_rfl
theorem bern_f (n : Nat) (p : List Tm) (b : Bx) (ha : askB p b = true) (hn : 1000001 < n) :
    ∃ o, fn_impl_bernstein.f n p b.1 b.2.1 b.2.2 = some o ∧ o.length = (dN p b.2.1.length 0 + 1) * (dN p b.2.1.length 1 + 1) * (dN p b.2.1.length 2 + 1) ∧ AllR o ∧ o.length ≤ 125 ∧
      ∀ x y z, x ≤ dN p b.2.1.length 0 → y ≤ dN p b.2.1.length 1 → z ≤ dN p b.2.1.length 2 → eqm (cf o (atN (dN p b.2.1.length 1) (dN p b.2.1.length 2) x y z)) (BV p b (dN p b.2.1.length 0) (dN p b.2.1.length 1) (dN p b.2.1.length 2) x y z) := by
  obtain ⟨hp, hb, hk⟩ := askB_of ha
  obtain ⟨w1, w2, w3, w4⟩ := boxB_of hb
  have hl := (polyB_at hp).1
  obtain ⟨eD, hd⟩ := degE_N p hp b.2.1.length w2.2
  obtain ⟨all, a1, ⟨a2, a3⟩, a4⟩ := places_f n p hp b.2.1.length w2.1 w2.2 hn
  have hpre := degE_pre p b.2.1.length w2.1 w2.2
  rw [eD] at hpre
  have hz : ∀ k, b.2.1.length ≤ k → k < 3 → dig (dN p b.2.1.length 0) (dN p b.2.1.length 1) (dN p b.2.1.length 2) k = 0 := fun k h1 h2 => by
    have hk : k = 1 ∨ k = 2 := by omega
    have hs : b.2.1.length = 1 ∨ b.2.1.length = 2 := by omega
    rcases hs with hs | hs <;> rw [hs] <;> rcases hk with rfl | rfl <;> first | rfl | omega
  have h0 : ∀ i k, i < p.length → b.2.1.length ≤ k → k < 3 → eN p i k = 0 := fun i k hi h1 h2 => by
    have hn0 : needB p b.2.1.length = true := by
      unfold askB at ha
      simp only [Bool.and_eq_true] at ha
      exact ha.2.2.2
    rw [← needB_eq p _ w2.1 w2.2, needS_iff] at hn0
    have ht := hn0 i (Nat.zero_le _) (by omega)
    have hd := degree_le p hp i hi
    unfold tN at ht
    simp only [Bool.and_eq_true, Bool.or_eq_true, bnot, Bool.not_eq_true', leI_eq, ltI_eq, decide_eq_false_iff_not] at ht
    have hk : k = 1 ∨ k = 2 := by omega
    unfold eN
    rcases hk with rfl | rfl
    · have := ht.2.1; omega
    · have := ht.2.2; omega
  generalize hs : b.2.1.length = s at *
  generalize dN p s 0 = d0 at *
  generalize dN p s 1 = d1 at *
  generalize dN p s 2 = d2 at *
  obtain ⟨K, hK⟩ : ∃ K : Nat, b.1 = (K : Int) := ⟨b.1.toNat, by omega⟩
  obtain ⟨N, hN⟩ : ∃ N, N = (d0 + 1) * (d1 + 1) * (d2 + 1) := ⟨_, rfl⟩
  rw [← hN] at a2
  have hdig : ∀ m, m < N → ∃ x y z, x ≤ d0 ∧ y ≤ d1 ∧ z ≤ d2 ∧ m = atN d1 d2 x y z := fun m hm => dec_at (by rw [← hN]; exact hm)
  have hJv : ∀ x y z, x ≤ d0 → y ≤ d1 → z ≤ d2 → ∀ k, k < s → (cf (rd LS all (atN d1 d2 x y z)) k).toNat = dig x y z k := fun x y z hx hy hz k hk => by
    rw [(a3 x y z hx hy hz).2 k hk, Int.toNat_natCast]
  have dig4 : ∀ x y z k, x ≤ d0 → y ≤ d1 → z ≤ d2 → dig x y z k ≤ 4 ∧ dig x y z k ≤ dig d0 d1 d2 k := fun x y z k hx hy hz => by
    match k with
    | 0 => exact ⟨by show x ≤ 4; omega, hx⟩
    | 1 => exact ⟨by show y ≤ 4; omega, hy⟩
    | _ + 2 => exact ⟨by show z ≤ 4; omega, hz⟩
  have hJ : ∀ m, m < N → Num (rd LS all m) s (fun k => (cf (rd LS all m) k).toNat) := fun m hm => by
    obtain ⟨x, y, z, hx, hy, hz', rfl⟩ := hdig m hm
    refine ⟨(a3 x y z hx hy hz').1, fun k hk => ?_⟩
    show cf (rd LS all (atN d1 d2 x y z)) k = (((cf (rd LS all (atN d1 d2 x y z)) k).toNat : Nat) : Int) ∧ (cf (rd LS all (atN d1 d2 x y z)) k).toNat ≤ 4
    rw [hJv x y z hx hy hz' k hk]
    exact ⟨(a3 x y z hx hy hz').2 k hk, (dig4 x y z k hx hy hz').1⟩
  have hJD : ∀ m, m < N → ∀ k, k < s → (cf (rd LS all m) k).toNat ≤ dig d0 d1 d2 k := fun m hm k hk => by
    obtain ⟨x, y, z, hx, hy, hz', rfl⟩ := hdig m hm
    rw [hJv x y z hx hy hz' k hk]
    exact (dig4 x y z k hx hy hz').2
  have hD : Num (degL p s) s (dig d0 d1 d2) := by rw [← hpre]; exact num_ex d0 d1 d2 s hd w2.1 w2.2
  have hbd : Bds b.2.1 b.2.2 s := ⟨hs, w3, fun m hm => by
    obtain ⟨x, y, e1, e2, e3, e4, e5⟩ := w4 m hm
    have e1' : cf b.2.1 m = x := e1
    have e2' : cf b.2.2 m = y := e2
    rw [e1', e2']
    omega⟩
  have ill : ilen all = (N : Int) := by rw [ilen_eq, a2]
  obtain ⟨a, g1, g2, g3, g4⟩ := be_l6 n b (degL p s) all p K s N (fun m k => (cf (rd LS all m) k).toNat) (fun z176 z177 z178 z179 => br (okMake (ilen z177) (ilen z177) 8) (fn_impl_bernstein.l32 n n z176 z177 z178 (repL (nat (ilen z177)) 0) z179 (ilen z177) 0 (fun z235 => some z235)) none) hp hK (by omega) hbd w2.1 w2.2 a2 (by omega) hJ hn p.length n 0 (repL N 0) (by omega) (by omega) (by omega) (rep_len _) (rep_inR _)
  obtain ⟨o, f1, f2, f3, f4⟩ := be_l32 n (degL p s) all a s N (dig d0 d1 d2) (fun m k => (cf (rd LS all m) k).toNat) (fun z235 => some z235) hD a2 (by omega) hJ hJD g2 g3 w2.2 hn N n 0 (repL N 0) (by omega) (by omega) (by omega) (rep_len _) (rep_inR _)
  refine ⟨o, ?_, by rw [f2, hN], f3, by omega, fun x y z hx hy hz' => ?_⟩
  · unfold fn_impl_bernstein.f
    have ils : ilen b.2.1 = (s : Int) := by rw [ilen_eq, hs]
    rw [ils, degreesOf_f n p s (by omega) hn w2.1 w2.2, Option.bind_some, iDgr_f n p hp (by omega), Option.bind_some, a1, Option.bind_some, ill, okMake_t (by omega) (by omega) (by omega), br_t, nat_cast, hK]
    refine g1.trans ?_
    rw [ill, okMake_t (by omega) (by omega) (by omega), br_t, nat_cast, ← ill]
    exact f1
  · have hlt : atN d1 d2 x y z < N := by rw [hN]; exact atN_bd hx hy hz'
    refine (f4 _ hlt).trans ?_
    rw [cf_rep, Int.zero_add, if_pos (Nat.zero_le _), BV_full p b hx hy hz', hN, sumF_rows _ (d2 + 1), sumF_rows _ (d1 + 1)]
    refine sumF_eqm fun i _ hi => sumF_eqm fun j _ hj => sumF_eqm fun l _ hl' => ?_
    show eqm (prodF (fun k => MV (dig d0 d1 d2 k) ((cf (rd LS all (atN d1 d2 x y z)) k).toNat) ((cf (rd LS all (atN d1 d2 i j l)) k).toNat)) (cf a (atN d1 d2 i j l)) 0 s) _
    have hlt2 : atN d1 d2 i j l < N := by rw [hN]; exact atN_bd (by omega) (by omega) (by omega)
    have hz2 : ∀ u v w, u ≤ d0 → v ≤ d1 → w ≤ d2 → ∀ k, s ≤ k → k < 3 → dig u v w k = 0 := fun u v w hu hv hw k q1 q2 => by
      have := (dig4 u v w k hu hv hw).2
      rw [hz k q1 q2] at this
      omega
    rw [prodF_congr (g := fun k => MV (dig d0 d1 d2 k) (dig x y z k) (dig i j l k)) (fun k _ hk => by rw [hJv x y z hx hy hz' k (by omega), hJv i j l (by omega) (by omega) (by omega) k (by omega)])]
    have hav : eqm (cf a (atN d1 d2 i j l)) (GV p b i j l) := by
      refine (g4 _ hlt2).trans ?_
      rw [cf_rep, Int.zero_add, ← AV_GV p b s i j l w2.2 h0 (hz2 i j l (by omega) (by omega) (by omega))]
      unfold AV
      refine sumF_eqm fun q _ _ => ?_
      rw [prodF_congr (g := fun k => ptV (cf b.2.1 k) (cf b.2.2 k) (dig (eN p q 0) (eN p q 1) (eN p q 2) k) (dig i j l k)) (fun k _ hk => by
        show ptV _ _ _ ((cf (rd LS all (atN d1 d2 i j l)) k).toNat) = _
        rw [hJv i j l (by omega) (by omega) (by omega) k (by omega)])]
      exact eqm_refl _
    refine (prodF_eqm hav).trans ?_
    rw [prodF_3 _ _ s w2.2 (fun k q1 q2 => by
      rw [hz k q1 q2, hz2 x y z hx hy hz' k q1 q2, hz2 i j l (by omega) (by omega) (by omega) k q1 q2]
      exact MV_00)]
    exact eqm_refl _
/-- Both sides' lists. -/
theorem both_f (n : Nat) (p : List Tm) (b : Bx) (ha : askB p b = true) (hn : 1000001 < n) : ∃ o, fn_impl_bernstein.f n p b.1 b.2.1 b.2.2 = some o ∧ fn_spec_beList.f n p b.2.1 b.2.2 b.1 = some (o, degE p b.2.1.length) ∧ o.length ≤ 125 ∧ 1 ≤ o.length ∧ AllR o := by
  obtain ⟨hp, hb, hk⟩ := askB_of ha
  obtain ⟨o, h1, h2, h3, h4, h5⟩ := bern_f n p b ha hn
  obtain ⟨r, g1, g2, g3, g4⟩ := list_f n p b hp hb hk hn
  have e : o = r := same_list (by rw [h2, g2]) h3 g3 fun m hm => by
    obtain ⟨x, y, z, hx, hy, hz, rfl⟩ := dec_at (by rw [← h2]; exact hm)
    exact (h5 x y z hx hy hz).trans (g4 x y z hx hy hz).symm
  subst e
  exact ⟨o, h1, g1, h4, by rw [h2]; exact Nat.mul_pos (Nat.mul_pos (Nat.succ_pos _) (Nat.succ_pos _)) (Nat.succ_pos _), h3⟩
end
end Go.Proofs.Ytpfjneaoankllaa.Z
