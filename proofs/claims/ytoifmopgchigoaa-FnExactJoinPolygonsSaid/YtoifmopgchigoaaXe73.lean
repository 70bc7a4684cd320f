-- slices.Concat at type 25
import Derived.Test.YtoifmopgchigoaaXB
import Derived.WalkSpells
namespace Go.Proofs.Ytoifmopgchigoaa.X
open Go.RowKit Go.Proofs.YtoifmopgchigoaaW.PrintWords Go.Proofs.YtoifmopgchigoaaW.PrintLast Go.Proofs.YtoifmopgchigoaaW.PrintMore
attribute [local go_sem] max2_int min2_int max_two min_two max_three min_three max_four min_four
set_option linter.unusedVariables false
set_option linter.unusedSimpArgs false
def concat73.f (l0 : List (List (S40))) : Option (List (S40)) := if l0.flatten.length ≤ 8796093021952 then some l0.flatten else none
set_option maxHeartbeats 1000000 in
set_option maxRecDepth 100000 in
theorem concat73.grow (n : Int) (w : World) (h0 : 0 ≤ n) (h1 : n ≤ 8796093021952) :
    Calls Try.prog 94 #[.slice none 0 0, .int .i64 n] w fun e w' => ∃ v0_ : Value, e = .returned (v0_) ∧ Kd.R k40 40 w' w.heap.size (fun _ => True) v0_ ([] : List (S40)) ∧ Below w.heap.size w w' := by
  by_cases hn : n = 0
  · subst hn
    go_enter Try.func94, Try.ntmps94
    go_wp2
    go_ret
    exact ⟨_, rfl, Kd.R_nil _ _ _ _ _, by first | exact Below.refl _ _ | exact below_drew1 (Below.refl _ _)⟩
  · have hlt : decide (n < 0) = false := by simp; omega
    have hgt : decide (0 < n) = true := by simp; omega
    have H0 := Aside0.mk h0
    have H1 := Aside0.mk h1
    have hb0 : 0 ≤ n := h0
    have hb1 : n ≤ 9223372036854775807 := by omega
    have hsub : IntKind.i64.wrap (n - 0) = n := by rw [i64_w]; unfold wrap64; omega
    obtain ⟨i0, hi0, _, _, _⟩ := info_parts info40
    have hcut1 := cut_to (P := Try.prog) 25 40 .i64 Try.underlying25 hi0 none 0 0 0 (by omega) (by omega) (by omega)
    have hcut2 : ∀ (Ax : Option Addr) (m c : Nat) (W : World), m ≤ c → (Instr.slice 25 (.slice Ax m c) none (some (.int .i64 0)) none).run Try.prog W = .ok (.slice Ax 0 c) W := fun Ax m c W hmc => cut_to (P := Try.prog) 25 40 .i64 Try.underlying25 hi0 Ax m c 0 (by omega) (by omega) hmc W
    have HC := Aside0.mk hcut2
    clear hcut2 h0 h1 hn hi0
    go_enter Try.func94, Try.ntmps94
    go_wp2_with (first | ((with_reducible refine gate_builtin (b := .append) (xs := #[.tmp 20, .tmp 21]) rfl ?_); at_builtin; refine Kd.R_append_zeros k40 (w0 := w) w.heap.size rfl (.tmp 20) (.tmp 21) 25 3 40 (.agg #[(.int .i64 0), (.int .i64 0)]) 16 rfl Try.underlying25 Try.underlying3 info40 rfl (by decide) (by omega) (.slice none 0 0) ([] : List (S40)) z40 n (fun _ => True) rfl rfl ?az (fun _ _ => trivial) ?aO H0.out ?aB ?aS ?aL ?_; (case az => first | exact k40_mkM _ _ _ z40 | rfl | (simp [Kd.int, Kd.scalar]; done)); (case aO => exact Kd.R_nil _ _ _ _ _); (case aB => first | exact Below.refl _ _ | exact below_drew1 (Below.refl _ _)); (case aS => exact Nat.le_refl _); (case aL => have := H0.out; have := H1.out; simp only [List.length_nil]; omega); intro v1 w1 ho hb hg hat; simp only [List.nil_append] at ho; obtain ⟨Ao, co, eo⟩ := Kd.R_slice ho; subst eo; have hr1 := Kd.R_take (m := 0) ho (by omega); rw [List.take_zero] at hr1; have hc3 := fun W : World => HC.out Ao (List.replicate n.toNat z40).length co W (Kd.R_reads' ho).2.1; have HO := Aside0.mk hr1; have HB := Aside0.mk hb; clear ho hb hg hat hr1))
    go_ret
    exact ⟨_, rfl, HO.out, HB.out⟩
theorem concat73.take_flat (l : List (List (S40))) (k : Nat) (h : k < l.length) : (l.take (k + 1)).flatten = (l.take k).flatten ++ l[k] := by
  rw [List.take_succ_eq_append_getElem h, List.flatten_append]
  simp
theorem concat73.flat_le (l : List (List (S40))) (k : Nat) : (l.take k).flatten.length ≤ l.flatten.length := by
  have : l.flatten = (l.take k).flatten ++ (l.drop k).flatten := by rw [← List.flatten_append, List.take_append_drop]
  rw [this, List.length_append]
  omega
def concat73.len (l : List (List (S40))) (k : Nat) : Nat := (l.take k).flatten.length
theorem concat73.len_succ (l : List (List (S40))) (k : Nat) (h : k < l.length) : concat73.len l (k + 1) = concat73.len l k + l[k].length := by
  unfold concat73.len
  rw [concat73.take_flat l k h, List.length_append]
theorem concat73.len_le (l : List (List (S40))) (k : Nat) : concat73.len l k ≤ l.flatten.length := concat73.flat_le l k
theorem concat73.row {w : World} {A0 : Option Addr} {l0 : List (List (S40))} (h : Kd.C (Kd.slice 40 k40) w A0 l0.length l0) (k : Nat) (hk : k < l0.length) :
    ∃ ad A c, A0 = some ad ∧ w.cell? (ad.add k) = some (.slice A l0[k].length c) ∧ l0[k].length ≤ c ∧ Kd.C k40 w A l0[k].length l0[k] := by
  obtain ⟨ad, e, hc⟩ := h.2.2 (by omega)
  obtain ⟨cs, hl, ⟨A, c, rfl, h1, h2⟩, h3⟩ := hc k _ (List.getElem?_eq_getElem hk)
  have := h3 0 _ rfl
  have hs : (Kd.slice 40 k40).sz = 1 := rfl
  rw [hs, Nat.mul_one, Nat.add_zero] at this
  exact ⟨ad, A, c, e, this, h1, h2⟩
set_option maxHeartbeats 4000000 in
set_option maxRecDepth 100000 in
theorem concat73.calls (A0 : Option Addr) (c0 : Nat) (l0 : List (List (S40))) (r : List (S40)) (w : World) (hr0 : Kd.C (Kd.slice 40 k40) w A0 l0.length l0) (hc0 : l0.length ≤ c0) (h : concat73.f l0 = some r) :
    Calls Try.prog 73 #[.slice A0 l0.length c0] w fun e w' => ∃ v0_ : Value, e = .returned (v0_) ∧ Kd.R k40 40 w' w.heap.size (fun _ => True) v0_ r ∧ Below w.heap.size w w' := by
  unfold concat73.f at h
  split at h
  · rename_i hl
    obtain rfl := Option.some.inj h
    have HL := Aside0.mk hl
    have HR0 := Aside0.mk hr0
    have hn : l0.length ≤ 9223372036854775807 := hr0.2.1
    have HB0 := Aside0.mk (Below.refl w.heap.size w)
    clear hl h hr0
    go_enter Try.func73, Try.ntmps73
    go_wp2_with fail
    go_loopw [3, 11] (fun v3 v11 wr => ∃ k : Nat, k ≤ l0.length ∧ v11 = .int .i64 k ∧ v3 = .int .i64 (concat73.len l0 k : Nat) ∧ Aside0 (Below w.heap.size w wr)) (fun _ i _ => l0.length - (intOf i).toNat)
    case atStart => exact ⟨0, Nat.zero_le _, rfl, rfl, HB0⟩
    case round =>
      obtain ⟨k, hk, rfl, rfl, HB⟩ := hrel
      by_cases hlt : k < l0.length
      · obtain ⟨ad, Ak, ck, rfl, hcell, hck, hCk⟩ := concat73.row HR0.out k hlt
        have hcell' := (HB.out.cell (World.block_lt_of_cell? w _ hcell)).trans hcell
        have hsum := concat73.len_succ l0 k hlt
        have hle := concat73.len_le l0 (k + 1)
        have hLo := HL.out
        have hb1 : concat73.len l0 k + l0[k].length ≤ 8796093021952 := by omega
        have HS := Aside0.mk hsum
        obtain ⟨nk, hnk⟩ : ∃ nk, nk = l0[k].length := ⟨_, rfl⟩
        rw [← hnk] at hb1 hcell' hck
        have HN := Aside0.mk hnk
        clear hsum hle hLo hcell hCk hnk
        go_wp2
        go_roundw
        case rel => exact ⟨k + 1, by omega, by go_num, by rw [HS.out, ← HN.out]; first | rfl | go_num | (congr 1; omega), HB⟩
        case measure => simp [intOf]; omega
      · obtain rfl : k = l0.length := by omega
        have hfl := concat73.len_le l0 l0.length
        have hLo := HL.out
        have hcall : ∀ W : World, Calls Try.prog 94 #[.slice none 0 0, .int .i64 (concat73.len l0 l0.length : Nat)] W fun e w' => ∃ v0_ : Value, e = .returned (v0_) ∧ Kd.R k40 40 w' W.heap.size (fun _ => True) v0_ ([] : List (S40)) ∧ Below W.heap.size W w' := fun W => concat73.grow _ W (by omega) (by omega)
        have HG := Aside0.mk hcall
        clear hcall hfl hLo
        go_wp2_with (first | (go_at_call 94; refine (HG.out _).mono ?_; rintro e w1 ⟨v1, rfl, ho, hb⟩; have HO := Aside0.mk (Kd.R_lower ho (below_size HB.out)); have HB1 := Aside0.mk (below_step HB.out hb); clear ho hb))
        go_loopw [6, 27] (fun v6 v27 wr => ∃ k : Nat, k ≤ l0.length ∧ v27 = .int .i64 k ∧ Aside0 (Kd.R k40 40 wr w.heap.size (fun _ => True) v6 (l0.take k).flatten) ∧ Aside0 (Below w.heap.size w wr)) (fun _ i _ => l0.length - (intOf i).toNat)
        case atStart => exact ⟨0, Nat.zero_le _, rfl, by simpa using HO, HB1⟩
        case round =>
          obtain ⟨j, hj, rfl, HO2, HB2⟩ := hrel
          by_cases hjl : j < l0.length
          · obtain ⟨ad, Ak, ck, rfl, hcell, hck, hCk⟩ := concat73.row HR0.out j hjl
            have hcell' := (HB2.out.cell (World.block_lt_of_cell? w _ hcell)).trans hcell
            have hsum := concat73.take_flat l0 j hjl
            have hle := concat73.flat_le l0 (j + 1)
            rw [hsum, List.length_append] at hle
            have hLo := HL.out
            have hb1 : (l0.take j).flatten.length + l0[j].length ≤ 8796093021952 := Nat.le_trans hle hLo
            have HS := Aside0.mk hsum
            have HS1 := Aside0.mk hb1
            have HCk := Aside0.mk (Kd.C_below hCk HB2.out)
            clear hsum hle hLo hcell hCk hb1
            go_wp2_with (first | ((with_reducible refine gate_builtin (b := .append) (xs := #[.tmp 31, .tmp 32]) rfl ?_); at_builtin; refine Kd.R_append_rows k40 (w0 := w) w.heap.size rfl (.tmp 31) (.tmp 32) 25 40 (.agg #[(.int .i64 0), (.int .i64 0)]) 16 rfl Try.underlying25 info40 rfl (by decide) (by omega) _ (l0.take j).flatten l0[j] _ _ _ (fun _ => True) (fun _ => False) rfl rfl ?aO ?aR (fun _ _ h => h) (fun _ h => h.elim) ?aF ?aB ?aS ?aL ?_; (case aO => (with_reducible repeat (first | apply Kd.R_alloc | apply Kd.R_drewN | apply Kd.R_drew)); exact HO2.out); (case aR => repeat (first | exact HCk.out | (with_reducible refine Kd.C_alloc ?_ _) | (with_reducible refine Kd.C_drewN ?_ _) | (with_reducible refine Kd.C_drew ?_))); (case aF => exact (fun _ _ => trivial)); (case aB => exact HB2.out); (case aS => exact HB2.out.size); (case aL => have := HS1.out; omega); intro v2 w2 ho2 hb2 hg2 hat2; rw [← HS.out] at ho2; have HO3 := Aside0.mk ho2; have HB3 := Aside0.mk hb2; clear ho2 hb2 hg2 hat2))
            go_roundw
            case rel => exact ⟨j + 1, by omega, by go_num, HO3, HB3⟩
            case measure => simp [intOf]; omega
          · obtain rfl : j = l0.length := by omega
            go_wp2
            go_ret
            exact ⟨_, rfl, by have := HO2.out; rwa [List.take_length] at this, HB2.out⟩
  · cases h
end Go.Proofs.Ytoifmopgchigoaa.X
