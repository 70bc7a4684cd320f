/- The reader tells the truth: functions bear their contracts. -/
import Derived.Test.YtpfjneaoankllaaEvA
import Derived.Deep.RegionHeld3
import Derived.Below
import Derived.Shelf.Spec.BitsCarry
import Derived.ChangeSame
import Derived.ChangeArms
import Derived.Deep.Slices
import Derived.OpenShut
import Derived.WideShapes
import Derived.Laws.BitsLemmas
set_option linter.unusedVariables false
set_option linter.unusedSimpArgs false
namespace Go.Proofs.Ytpfjneaoankllaa.Ev
open Go.RowKit
section
variable {cx : Cx} {ι : Lay} {st : State} {ts : Array Value} {w : World}
variable {P : Program} {E : Env} {o : Oper} {a : Act} {R : Type} {K : State → Option R} {r : R} {next : Act → World → Prop} {Q : Exit → Act → World → Prop}
theorem wanted_none {ops : Array Oper} (h : o.guard = none) (ts : Array Value) : Region.wanted o (yielded ops ts) = true := by simp [Region.wanted, h]
/-- The world has grown, and what was there is as it was. -/
def Grew (w w' : World) : Prop := w.heap.size ≤ w'.heap.size ∧ ∀ k, k < w.heap.size → w'.heap[k]? = w.heap[k]?
theorem Grew.refl (w : World) : Grew w w := ⟨Nat.le_refl _, fun _ _ => rfl⟩
theorem Grew.trans {w w' w'' : World} (h : Grew w w') (h' : Grew w' w'') : Grew w w'' := ⟨Nat.le_trans h.1 h'.1, fun k hk => (h'.2 k (Nat.lt_of_lt_of_le hk h.1)).trans (h.2 k hk)⟩
/-- A call: by the callee's contract. -/
def CallOk (cx : Cx) (P : Program) (E : Env) : Prop := ∀ {ι : Lay} {st : State} {w : World} {o : Oper} {a : Act} {R : Type} {K : State → Option R} {r : R} {next : Act → World → Prop} {Q : Exit → Act → World → Prop} {c : Call} {f : FuncId},
  o.op = .call c → (∃ x, c.callee = .value x ∧ a.eval x = .func (.func f) #[] #[]) → Sim cx ι st a.tmps w → a.defers = [] → Nx cx K r next → callE E.T E.F o.type st f (evs st c.args.toList) (fun v st' => K (st'.put o.dst v)) = some r → o.wp P a w (fun a' w' => (mildF (E.F f) = true → Grew w w') ∧ next a' w') Q
theorem evs_two {st : State} {l : List Operand} {u v : Val} (h : evs st l = [u, v]) : ∃ x y, l = [x, y] ∧ st.ev x = u ∧ st.ev y = v := by
  match l with
  | [] => simp [evs] at h
  | [_] => simp [evs] at h
  | [x, y] => simp [evs] at h; exact ⟨x, y, rfl, h.1, h.2⟩
  | _ :: _ :: _ :: _ => simp [evs] at h
theorem op_sound (hT : TOk P E) (hC : CallOk cx P E) (hs : Sim cx ι st a.tmps w) (hd : a.defers = []) (hN : Nx cx K r next) (h : opE E o st K = some r) : o.wp P a w next Q := by
  unfold opE at h
  dsimp only at h
  split at h
  · rename_i x ho
    exact op_move (E := E) (.inl ho) hs hd hN h
  · rename_i x ho
    exact op_move (E := E) (.inr ho) hs hd hN h
  · rename_i c x y ho
    split at h
    · rename_i q hq
      exact op_pick ho hs hd hN hq h
    · cases h
  · rename_i t ho
    split at h
    · rename_i ti hti
      split at h
      · exact op_alloc_v hT ho hs hd hN hti h
      · exact op_alloc hT ho hs hd hN hti h
    · cases h
  · rename_i t x ho
    split at h
    · rename_i ti c hti hx
      split at h
      · split at h
        · rename_i cs hcs
          exact op_box_v ho hs hd hN hx hcs h
        · cases h
      · split at h
        · rename_i cs hcs
          split at h
          · rename_i y hy
            exact op_box ho hs hd hN hx hcs hy h (freeze_count _ _)
          · cases h
        · cases h
    · cases h
  · rename_i t ps ho
    split at h
    · rename_i ti hti
      split at h
      · rename_i e1 n1 ha
        exact (op_buildA hT ho hs hd hN hti ha h).wp
      rename_i hna
      split at h
      · rename_i pl hagg hp
        split at h
        · rename_i cs hf
          exact (op_build hT ho hs hd hN hti hna hagg hp hf h).wp
        · cases h
      · cases h
    · cases h
  · rename_i t x ix ho
    split at h
    · rename_i k0 n0 hix
      exact (op_indexA hT ho hs hd hN hix h).wp
    · cases h
  · rename_i t n ps ho
    split at h
    · rename_i te e fl pl ht hp
      split at h
      · rename_i cs h1 h2 h3
        split at h
        · rename_i l hl
          exact op_buildSlice hT ho hs hd hN ht hp h1 h2 h3 hl h
        · cases h
      · cases h
    · cases h
  · rename_i t x ho
    obtain ⟨u, h1, h2⟩ := op_load hT ho hs hd hN h
    exact wp_val (h1 w (fun _ _ => rfl)) h2
  · rename_i t x y ho
    exact op_store hT ho hs hd hN h
  · rename_i x ho
    split at h
    · rename_i rr i j hx
      split at h
      · rename_i g hg
        exact (op_nil ho hs hd hN hx (.inl ⟨rr, i, j, rfl⟩) (fun _ _ _ e => by cases e; exact ⟨g, hg⟩) h).wp
      · cases h
    · rename_i f hx
      exact (op_nil ho hs hd hN hx (.inr ⟨f, rfl⟩) (fun _ _ _ e => by cases e) h).wp
    · cases h
  · rename_i op t x y yt ho
    split at h
    · rename_i c1 c2 h1 h2
      split at h
      · rename_i q hq
        exact (op_nilq hT ho hs hd hN h1 h2 hq h).wp
      · exact (op_bin hT ho hs hd hN h1 h2 h).wp
    · rename_i cs ds h1 h2
      split at h
      · rename_i q hq
        exact (op_eqA hT ho hs hd hN h1 h2 hq h).wp
      · cases h
    · cases h
  · rename_i op t x ho
    split at h
    · rename_i c hx
      exact (op_un ho hs hd hN hx h).wp
    · cases h
  · rename_i s t x ho
    split at h
    · rename_i k fl k' n si ht hx hsi
      exact (op_convert hT ho hs hd hN hx ht hsi h).wp
    · rename_i fl rr sl te fl' ht hx hsi
      split at h
      · rename_i g hg hk
        split at h
        · rename_i b hb
          obtain ⟨u, h1, h2⟩ := op_bytes hT ho hs hd hN hx ht hsi hg hk hb h
          exact wp_val (h1 w fun _ _ => rfl) h2
        · cases h
      · cases h
    · cases h
  · rename_i t l c ho
    split at h
    · rename_i te e fl n m ht hl hc
      split at h
      · rename_i by_ hB
        exact op_make hT ho hs hd hN ht hl hc hB h
      · cases h
    · cases h
  · rename_i t x hi ho
    split at h
    · rename_i rr s n hx hix
      split at h
      · rename_i g o' m hg
        split at h
        · rename_i hsl
          exact (op_slice_h hT ho hs hd hN hx hix hg hsl h).wp
        · cases h
      · rename_i s1 _ s2 g hg hns
        split at h
        · rename_i hsl
          refine (op_slice_h hT ho hs hd hN hx hix hg hsl ?_).wp
          cases s1 with
          | all => exact h
          | pre n => exact h
          | sub o' m => exact absurd rfl (hns o' m)
        · cases h
      · cases h
    · rename_i rr n hx hix
      exact (op_sliceA hT ho hs hd hN hx hix h).wp
    · cases h
  · rename_i t x lo ho
    split at h
    · rename_i rr s n hx hlo
      split at h
      · rename_i g hg
        split at h
        · rename_i hsl
          rcases br_some h with ⟨hok, h⟩ | ⟨_, h⟩
          · obtain ⟨h1, h2⟩ := okSl_spec hok
            rw [ivlen_eq] at h2
            refine (op_slice_lh (m := ((vlen g.l s : Nat) : Int)) hT ho hs hd hN hx hlo (.inr ⟨rfl, rfl⟩) hg hsl ⟨h1, h2, Int.le_refl _⟩ ?_).wp
            simpa [nat] using h
          · cases h
        · cases h
      · cases h
    · cases h
  · rename_i t x lo hi ho
    split at h
    · rename_i rr s n m hx hlo hhi
      split at h
      · rename_i g hg hsl
        rw [hg] at hsl
        rcases br_some h with ⟨hok, h⟩ | ⟨_, h⟩
        · have hok : 0 ≤ n ∧ n ≤ m ∧ m ≤ ivlen g.l s := by simpa [okLHM] using hok
          rw [ivlen_eq] at hok
          exact (op_slice_lh hT ho hs hd hN hx hlo (.inl ⟨hi, rfl, hhi⟩) hg hsl hok h).wp
        · cases h
      · cases h
    · rename_i b n m hx hlo hhi
      split at h
      · rename_i hS
        exact (op_slice_str hT ho hs hd hN hx hlo hhi hS h).wp
      · cases h
    · cases h
  · rename_i t x i ho
    split at h
    · rename_i rr ai j ti hx hti
      split at h
      · rename_i off ft hf
        split at h
        · rename_i fi hfi
          split at h
          · rename_i g hpos hg
            exact (op_fieldAddr hT ho hs hd hN hx hti hf hfi hpos ⟨_, hg⟩ h).wp
          · cases h
        · cases h
      · cases h
    · cases h
  · rename_i t x i ho
    split at h
    · rename_i cs ti hx hti
      split at h
      · rename_i off ft hf
        split at h
        · rename_i fi hfi
          exact (op_field hT ho hs hd hN hx hti hf hfi h).wp
        · cases h
      · cases h
    · cases h
  · rename_i t x ix ho
    split at h
    · rename_i rr s k n hx hix
      split at h
      · rename_i g hg
        split at h
        · rename_i hsl
          exact (op_indexAddr hT ho hs hd hN hx hix hg hsl h).wp
        · cases h
      · cases h
    · cases h
  · rename_i x i ho
    split at h
    · rename_i cs hx
      split at h
      · rename_i c hc
        exact (op_extract (T := E.T) ho hs hd hN hx hc h).wp
      · rename_i c hc hne
        refine (op_extract (T := E.T) ho hs hd hN hx hne ?_).wp
        cases c with
        | one c => exact absurd rfl (hc c)
        | agg cs => exact h
      · cases h
    · cases h
  · rename_i c ho
    split at h
    · rename_i x hc
      split at h
      · rename_i f hx
        have hv := hs.ev x
        rw [hx] at hv
        exact Oper.wp_mono (fun _ _ h => h.2) (hC ho ⟨x, hc, hv⟩ hs hd hN h)
      · cases h
    · rename_i hc
      split at h
      · rename_i x t ha hta
        split at h
        · rename_i n hn
          exact (op_len hT ho hc ha hta hs hd hN hn h).wp
        · cases h
      · cases h
    · rename_i hc
      split at h
      · rename_i x y t t' ha hta
        split at h
        · rename_i ht
          have ht := Nat.eq_of_beq_eq_true ht
          subst ht
          exact op_append hT ho hc ha hta hs hd hN h
        · cases h
      · cases h
    · rename_i hc
      split at h
      · rename_i k n k' m hev
        split at h
        · rename_i hk
          subst hk
          obtain ⟨x, y, ha, hx, hy⟩ := evs_two hev
          exact (op_max ho hc ha hs hd hN hx hy h).wp
        · cases h
      · cases h
    · rename_i hc
      split at h
      · rename_i k n k' m hev
        split at h
        · rename_i hk
          subst hk
          obtain ⟨x, y, ha, hx, hy⟩ := evs_two hev
          exact (op_min ho hc ha hs hd hN hx hy h).wp
        · cases h
      · cases h
    · cases h
  · cases h
theorem op_alloc_g (hT : TOk P E) {t : TypeId} (ho : o.op = .alloc t) (hs : Sim cx ι st a.tmps w) (hd : a.defers = []) (hN : Nx cx K r next)
    (h : opE E o st K = some r) : o.wp P a w (fun a' w' => (Grew w w' ∧ ∀ x, o.dst = some x → ∀ p : Addr, a'.tmps[x]? = some (.pointer (some p)) → w.heap.size ≤ p.block) ∧ next a' w') Q := by
  unfold opE at h
  rw [ho] at h
  dsimp only at h
  split at h
  · rename_i ti hti
    obtain ⟨i, z, h1, h2, h3, h4⟩ := hT.e hti
    have hn : next (a.put o.dst (.pointer (some ⟨w.heap.size, 0, none⟩))) (w.alloc (.cells z.cells t)) := by
      split at h
      · exact alloc_v_next hs hd hN h4 h
      · exact newVar_sim hs hd hN (.inr trivial) (VarR.nv (hT.nv hti).1) (by rw [h4]; exact zeroV_rd _) rfl h
    refine wp_val (u := .pointer (some ⟨w.heap.size, 0, none⟩)) (w' := w.alloc (.cells z.cells t)) ?_ ⟨⟨⟨?_, fun k hk => ?_⟩, fun x hx p hp => ?_⟩, hn⟩
    · simp [execOp, ho, Instr.alloc, zeroValue, typeInfo, h1, h3, newVar, newRow]
    · show w.heap.size ≤ (w.heap.push _).size
      rw [Array.size_push]; omega
    · show (w.heap.push _)[k]? = _
      rw [Array.getElem?_push, if_neg (by omega)]
    · rw [hx] at hp
      have hp : (a.tmps.setIfInBounds x (.pointer (some ⟨w.heap.size, 0, none⟩)))[x]? = some (.pointer (some p)) := hp
      rw [Array.getElem?_setIfInBounds, if_pos rfl] at hp
      split at hp
      · injection hp with hp
        injection hp with hp
        injection hp with hp
        rw [← hp]
        exact Nat.le_refl _
      · cases hp
  · cases h
theorem op_store_x (hT : TOk P E) {t : TypeId} {x y : Operand} (ho : o.op = .store t x y) (hs : Sim cx ι st a.tmps w) (hd : a.defers = []) (hN : Nx cx K r next)
    (h : opE E o st K = some r) : o.wp P a w (fun a' w' => (∃ p : Addr, a.eval x = .pointer (some p) ∧ w.heap.size ≤ w'.heap.size ∧ ∀ k, k < w.heap.size → k ≠ p.block → w'.heap[k]? = w.heap[k]?) ∧ next a' w') Q := by
  unfold opE at h
  rw [ho] at h
  exact op_store_f hT ho hs hd hN h
/-- A call that changes nothing of what was there; a new variable. -/
theorem op_mild (hT : TOk P E) (hC : CallOk cx P E) (hm : mildOp (mildE E) o = true) (hs : Sim cx ι st a.tmps w) (hd : a.defers = []) (hN : Nx cx K r next) (h : opE E o st K = some r) : o.wp P a w (fun a' w' => Grew w w' ∧ next a' w') Q := by
  unfold mildOp at hm
  split at hm
  · rename_i c ho
    split at hm
    · rename_i f hc
      unfold opE at h
      rw [ho] at h
      dsimp only at h
      rw [hc] at h
      dsimp only [State.ev] at h
      exact Oper.wp_mono (fun _ _ h => ⟨h.1 hm, h.2⟩) (hC ho ⟨.func f, hc, rfl⟩ hs hd hN h)
    · cases hm
  · rename_i t ho
    exact Oper.wp_mono (fun _ _ h => ⟨h.1.1, h.2⟩) (op_alloc_g hT ho hs hd hN h)
  · cases hm
end
end Go.Proofs.Ytpfjneaoankllaa.Ev

/-! Forgetting: a state may always say less. -/
namespace Go.Proofs.Ytpfjneaoankllaa.Ev
open Go.RowKit
theorem least {p : Nat → Prop} (h : ∃ k, p k) : ∃ k, p k ∧ ∀ j, j < k → ¬ p j := by
  classical
  obtain ⟨k, hk⟩ := h
  induction k using Nat.strongRecOn with
  | ind k ih =>
    by_cases h : ∃ j, j < k ∧ p j
    · obtain ⟨j, h1, h2⟩ := h
      exact ih j h1 h2
    · exact ⟨k, hk, fun j h1 h2 => h ⟨j, h1, h2⟩⟩
/-- A state that says less. -/
def Less (st st' : State) : Prop := ∀ (cx : Cx) (ι : Lay) (ts : Array Value) (w : World), Sim cx ι st ts w → ∃ ι', Sim cx ι' st' ts w
theorem Less.refl (st : State) : Less st st := fun _ ι _ _ h => ⟨ι, h⟩
theorem Less.trans {a b c : State} (h : Less a b) (h' : Less b c) : Less a c := fun cx ι ts w hs => by
  obtain ⟨ι', h1⟩ := h cx ι ts w hs
  exact h' cx ι' ts w h1
section
variable {cx : Cx} {ι ι' : Lay} {st : State} {ts : Array Value} {w : World} {σ' σ'' : List (Option Reg)} {m m' : List (Nat × Option Nat)}
theorem look_cons {α : Type} {k t : Nat} {x : α} {l : List (Nat × α)} : look ((k, x) :: l) t = if k = t then some x else look l t := by
  simp only [look]
  by_cases h : k = t
  · subst h; simp
  · rw [if_neg h]
    have : Nat.beq k t = false := by
      cases hb : Nat.beq k t
      · rfl
      · exact absurd (Nat.eq_of_beq_eq_true hb) h
    rw [this]
/-- What a cell of the new state holds, while its rows are being laid. -/
def CRx (cx : Cx) (w : World) (ι : Lay) (σ : List (Option Reg)) (ι' : Lay) (σ' : List (Option Reg)) : Cell → Value → Prop
  | .ref r s, v => CR cx w ι' σ' (.ref r s) v
  | .ptr r i j, v => CR cx w ι' σ' (.ptr r i j) v
  | c, v => CR cx w ι σ c v
structure Ext (ι : Lay) (σ : List (Option Reg)) (ι' : Lay) (σ' : List (Option Reg)) : Prop where
  len : σ.length ≤ σ'.length
  back : ∀ r g, r < σ.length → live σ' r g → live σ r g ∧ ι' r = ι r
theorem Ext.refl (ι : Lay) (σ : List (Option Reg)) : Ext ι σ ι σ := ⟨Nat.le_refl _, fun _ _ _ h => ⟨h, rfl⟩⟩
theorem Ext.trans {ι1 ι2 ι3 : Lay} {σ1 σ2 σ3 : List (Option Reg)} (h : Ext ι1 σ1 ι2 σ2) (h' : Ext ι2 σ2 ι3 σ3) : Ext ι1 σ1 ι3 σ3 :=
  ⟨Nat.le_trans h.len h'.len, fun r g hr hg => by
    obtain ⟨h1, h2⟩ := h'.back r g (Nat.lt_of_lt_of_le hr h.len) hg
    obtain ⟨h3, h4⟩ := h.back r g hr h1
    exact ⟨h3, h2.trans h4⟩⟩
theorem Ext.add (ι : Lay) (σ : List (Option Reg)) (g : Option Reg) (x : Option Addr × Nat) : Ext ι σ (lay ι σ.length x) (σ ++ [g]) :=
  ⟨by simp, fun r g' hr hg => by
    unfold live at hg ⊢
    rw [List.getElem?_append_left hr] at hg
    exact ⟨hg, by unfold lay; rw [if_neg (by omega)]⟩⟩
theorem CRx.ext {σ : List (Option Reg)} {ι1 ι2 : Lay} {σ1 σ2 : List (Option Reg)} (h : Ext ι1 σ1 ι2 σ2) {c : Cell} {v : Value} (hc : CRx cx w ι σ ι1 σ1 c v) : CRx cx w ι σ ι2 σ2 c v := by
  cases c with
  | ref r s =>
    refine ⟨Nat.lt_of_lt_of_le hc.1 h.len, fun g hg => ?_⟩
    obtain ⟨h1, h2⟩ := h.back r g hc.1 hg
    rw [h2]
    exact hc.2 g h1
  | ptr r i j =>
    refine ⟨Nat.lt_of_lt_of_le hc.1 h.len, fun g hg => ?_⟩
    obtain ⟨h1, h2⟩ := h.back r g hc.1 hg
    rw [h2]
    exact hc.2 g h1
  | _ => exact hc
/-- The rows that have been laid, and where they come from. -/
structure Inv (cx : Cx) (w : World) (ι : Lay) (σ : List (Option Reg)) (m : List (Nat × Option Nat)) (ι' : Lay) (σ' : List (Option Reg)) : Prop where
  own : ∀ k g', live σ' k g' → g'.own = true → ∃ r g, live σ r g ∧ g.own = true ∧ ι' k = ι r ∧ (∃ x, look m r = some x) ∧
    ((isVar g.e = false ∧ ∃ n, n ≤ g.l.length ∧ g' = ⟨g.t, g.e, g.l.take n, true, g.fr⟩) ∨
     ∃ (t : TypeId) (n : Nat) (rcs rcs' : List RC) (fr : Bool) (xs : List Value), g = ⟨t, .var n, [rcs], true, fr⟩ ∧ g' = ⟨t, .var n, [rcs'], true, fr⟩ ∧ w.ownsRow 0 t n (.slice (ι r).1 1 (ι r).2) 1 xs ∧ RD w (Rdb cx w ι σ fr) (.var n) rcs' xs ∧
       (∀ a, (ι r).1 = some a → (fr = true → cx.New a.block) ∧ (cx.New a.block ∨ cx.M a.block)) ∧ All2 (CRx cx w ι σ ι' σ') (cellsOf rcs') xs)
  rd : ∀ k g', live σ' k g' → g'.own = false → RD w (Rdb cx w ι σ g'.fr) (.slice g'.t g'.e) g'.l [.slice (ι' k).1 g'.l.length (ι' k).2]
  apart : ∀ r r' g g' a a', live σ' r g → live σ' r' g' → g.own = true → g'.own = true → (ι' r).1 = some a → (ι' r').1 = some a' → a.block = a'.block → r = r'
  at' : ∀ r r', look m r = some (some r') → ∃ g g', live σ r g ∧ live σ' r' g' ∧ ι' r' = ι r ∧ g'.e.size = g.e.size ∧ g'.l.length = g.l.length
theorem Inv.nil : Inv cx w ι st.σ [] ι [] :=
  ⟨fun k g' h => by simp [live] at h, fun k g' h => by simp [live] at h, fun r r' g g' a a' h => by simp [live] at h, fun r r' h => by simp [look] at h⟩
theorem Inv.addRd (h : Inv cx w ι st.σ m ι' σ') (g : Reg) (hg : g.own = false) (A : Option Addr) (c : Nat) (hrd : RD w (Rdb cx w ι st.σ g.fr) (.slice g.t g.e) g.l [.slice A g.l.length c]) :
    Inv cx w ι st.σ m (lay ι' σ'.length (A, c)) (σ' ++ [some g]) := by
  have hl : ∀ r, r < σ'.length → lay ι' σ'.length (A, c) r = ι' r := fun r hr => by unfold lay; rw [if_neg (by omega)]
  have hnew : lay ι' σ'.length (A, c) σ'.length = (A, c) := by unfold lay; rw [if_pos rfl]
  refine ⟨fun k g' h1 h2 => ?_, fun k g' h1 h2 => ?_, fun r r' g1 g2 a a' h1 h2 h3 h4 h5 h6 h7 => ?_, fun r r' h1 => ?_⟩
  · rcases live_new.1 h1 with h1 | ⟨rfl, rfl⟩
    · rw [hl k (live_lt h1)]
      obtain ⟨r, g0, h3, h4, h5, h6, h7⟩ := h.own k g' h1 h2
      refine ⟨r, g0, h3, h4, h5, h6, h7.imp id ?_⟩
      rintro ⟨t, n, rcs, rcs', fr, xs, e1, e2, e3, e4, e5, e6⟩
      exact ⟨t, n, rcs, rcs', fr, xs, e1, e2, e3, e4, e5, e6.imp fun _ _ hc => hc.ext (Ext.add _ _ _ _)⟩
    · rw [hg] at h2; cases h2
  · rcases live_new.1 h1 with h1 | ⟨rfl, rfl⟩
    · rw [hl k (live_lt h1)]; exact h.rd k g' h1 h2
    · rw [hnew]; exact hrd
  · rcases live_new.1 h1 with h1 | ⟨rfl, rfl⟩
    · rcases live_new.1 h2 with h2 | ⟨rfl, rfl⟩
      · rw [hl _ (live_lt h1)] at h5
        rw [hl _ (live_lt h2)] at h6
        exact h.apart r r' g1 g2 a a' h1 h2 h3 h4 h5 h6 h7
      · rw [hg] at h4; cases h4
    · rw [hg] at h3; cases h3
  · obtain ⟨g0, g1, h2, h3, h4, h5⟩ := h.at' r r' h1
    exact ⟨g0, g1, h2, live_new.2 (.inl h3), by rw [hl _ (live_lt h3)]; exact h4, h5⟩
theorem Inv.addOwn0 (hs : Sim cx ι st ts w) (h : Inv cx w ι st.σ m ι' σ') {r : Nat} {g gn : Reg} (hr : live st.σ r g) (hg : g.own = true) (hm : look m r = none) (x : Option Nat) (hgn : gn.own = true) (hx : x = none ∨ (x = some σ'.length ∧ gn.e.size = g.e.size ∧ gn.l.length = g.l.length))
    (hnew : (isVar g.e = false ∧ ∃ n, n ≤ g.l.length ∧ gn = ⟨g.t, g.e, g.l.take n, true, g.fr⟩) ∨
     ∃ (t : TypeId) (n : Nat) (rcs rcs' : List RC) (fr : Bool) (xs : List Value), g = ⟨t, .var n, [rcs], true, fr⟩ ∧ gn = ⟨t, .var n, [rcs'], true, fr⟩ ∧ w.ownsRow 0 t n (.slice (ι r).1 1 (ι r).2) 1 xs ∧ RD w (Rdb cx w ι st.σ fr) (.var n) rcs' xs ∧
       (∀ a, (ι r).1 = some a → (fr = true → cx.New a.block) ∧ (cx.New a.block ∨ cx.M a.block)) ∧ All2 (CRx cx w ι st.σ ι' σ') (cellsOf rcs') xs) :
    Inv cx w ι st.σ ((r, x) :: m) (lay ι' σ'.length (ι r)) (σ' ++ [some gn]) := by
  have hl : ∀ k, k < σ'.length → lay ι' σ'.length (ι r) k = ι' k := fun k hr => by unfold lay; rw [if_neg (by omega)]
  have hnew' : lay ι' σ'.length (ι r) σ'.length = ι r := by unfold lay; rw [if_pos rfl]
  have hmm : ∀ r', (∃ y, look m r' = some y) → ∃ y, look ((r, x) :: m) r' = some y := fun r' ⟨y, hy⟩ => by
    rw [look_cons]
    by_cases h1 : r = r'
    · exact ⟨x, if_pos h1⟩
    · exact ⟨y, by rw [if_neg h1]; exact hy⟩
  have far : ∀ k g1 a a', live σ' k g1 → g1.own = true → (ι' k).1 = some a → (ι r).1 = some a' → a.block ≠ a'.block := fun k g1 a a' h1 h2 h3 h4 h5 => by
    obtain ⟨r1, g2, h6, h7, h8, ⟨y, h9⟩, _⟩ := h.own k g1 h1 h2
    rw [h8] at h3
    have := hs.apart r1 r g2 g a a' h6 hr h7 hg h3 h4 h5
    subst this
    rw [hm] at h9
    cases h9
  have grow : ∀ {r0 : Nat} {g0 g' : Reg}, ((isVar g0.e = false ∧ ∃ n, n ≤ g0.l.length ∧ g' = ⟨g0.t, g0.e, g0.l.take n, true, g0.fr⟩) ∨
     ∃ (t : TypeId) (n : Nat) (rcs rcs' : List RC) (fr : Bool) (xs : List Value), g0 = ⟨t, .var n, [rcs], true, fr⟩ ∧ g' = ⟨t, .var n, [rcs'], true, fr⟩ ∧ w.ownsRow 0 t n (.slice (ι r0).1 1 (ι r0).2) 1 xs ∧ RD w (Rdb cx w ι st.σ fr) (.var n) rcs' xs ∧
       (∀ a, (ι r0).1 = some a → (fr = true → cx.New a.block) ∧ (cx.New a.block ∨ cx.M a.block)) ∧ All2 (CRx cx w ι st.σ ι' σ') (cellsOf rcs') xs) → ((isVar g0.e = false ∧ ∃ n, n ≤ g0.l.length ∧ g' = ⟨g0.t, g0.e, g0.l.take n, true, g0.fr⟩) ∨
     ∃ (t : TypeId) (n : Nat) (rcs rcs' : List RC) (fr : Bool) (xs : List Value), g0 = ⟨t, .var n, [rcs], true, fr⟩ ∧ g' = ⟨t, .var n, [rcs'], true, fr⟩ ∧ w.ownsRow 0 t n (.slice (ι r0).1 1 (ι r0).2) 1 xs ∧ RD w (Rdb cx w ι st.σ fr) (.var n) rcs' xs ∧
       (∀ a, (ι r0).1 = some a → (fr = true → cx.New a.block) ∧ (cx.New a.block ∨ cx.M a.block)) ∧ All2 (CRx cx w ι st.σ (lay ι' σ'.length (ι r)) (σ' ++ [some gn])) (cellsOf rcs') xs) := fun h7 => by
    refine h7.imp id ?_
    rintro ⟨t, n, rcs, rcs', fr, xs, e1, e2, e3, e4, e5, e6⟩
    exact ⟨t, n, rcs, rcs', fr, xs, e1, e2, e3, e4, e5, e6.imp fun _ _ hc => hc.ext (Ext.add _ _ _ _)⟩
  refine ⟨fun k g' h1 h2 => ?_, fun k g' h1 h2 => ?_, fun r1 r2 g1 g2 a a' h1 h2 h3 h4 h5 h6 h7 => ?_, fun r1 r2 h1 => ?_⟩
  · rcases live_new.1 h1 with h1 | ⟨rfl, rfl⟩
    · rw [hl k (live_lt h1)]
      obtain ⟨r1, g2, h6, h7, h8, h9, h10⟩ := h.own k g' h1 h2
      exact ⟨r1, g2, h6, h7, h8, hmm _ h9, grow h10⟩
    · exact ⟨r, g, hr, hg, hnew', ⟨x, by rw [look_cons, if_pos rfl]⟩, grow hnew⟩
  · rcases live_new.1 h1 with h1 | ⟨rfl, rfl⟩
    · rw [hl k (live_lt h1)]; exact h.rd k g' h1 h2
    · rw [hgn] at h2; cases h2
  · rcases live_new.1 h1 with k1 | ⟨k1, k1'⟩ <;> rcases live_new.1 h2 with k2 | ⟨k2, k2'⟩
    · rw [hl _ (live_lt k1)] at h5
      rw [hl _ (live_lt k2)] at h6
      exact h.apart r1 r2 g1 g2 a a' k1 k2 h3 h4 h5 h6 h7
    · rw [hl _ (live_lt k1)] at h5
      rw [k2, hnew'] at h6
      exact absurd h7 (far r1 g1 a a' k1 h3 h5 h6)
    · rw [hl _ (live_lt k2)] at h6
      rw [k1, hnew'] at h5
      exact absurd h7.symm (far r2 g2 a' a k2 h4 h6 h5)
    · rw [k1, k2]
  · rw [look_cons] at h1
    split at h1
    · rename_i e
      subst e
      have hx' := Option.some.inj h1
      rcases hx with rfl | ⟨rfl, h8⟩
      · cases hx'
      · obtain rfl := Option.some.inj hx'
        exact ⟨g, gn, hr, live_new.2 (.inr ⟨rfl, rfl⟩), hnew', h8⟩
    · obtain ⟨g0, g1, h2, h3, h4, h5⟩ := h.at' r1 r2 h1
      exact ⟨g0, g1, h2, live_new.2 (.inl h3), by rw [hl _ (live_lt h3)]; exact h4, h5⟩
theorem Inv.addOwn (hs : Sim cx ι st ts w) (h : Inv cx w ι st.σ m ι' σ') {r : Nat} {g : Reg} (hr : live st.σ r g) (hg : g.own = true) (hnv : isVar g.e = false) (hm : look m r = none) (n : Nat) (hn : n ≤ g.l.length) (x : Option Nat) (hx : x = none ∨ (x = some σ'.length ∧ n = g.l.length)) :
    Inv cx w ι st.σ ((r, x) :: m) (lay ι' σ'.length (ι r)) (σ' ++ [some ⟨g.t, g.e, g.l.take n, true, g.fr⟩]) :=
  h.addOwn0 hs hr hg hm x rfl (hx.imp id fun hh => ⟨hh.1, rfl, by rw [hh.2, List.take_of_length_le (Nat.le_refl _)]⟩) (.inl ⟨hnv, n, hn, rfl⟩)
theorem shut_spec {s : Slc} {k n : Nat} (h : shut s k = some n) : s = .pre n := by
  unfold shut at h
  split at h
  · cases h; rfl
  · cases h
/-- A view's length and place. -/
theorem SlR.view {A : Option Addr} {c size : Nat} {α : Type} {l : List α} {s : Slc} {v : Value} (h : SlR A c size l.length s v) : ∃ A' c', v = .slice A' (view l s).length c' := by
  cases s with
  | all => exact ⟨_, _, h⟩
  | pre n => obtain ⟨h1, rfl⟩ := h; exact ⟨A, c, by simp [Ev.view, preL, Nat.min_eq_left h1]⟩
  | sub o n => obtain ⟨h1, A', c', rfl, _⟩ := h; exact ⟨A', c', by simp only [Ev.view, subL, List.length_take, List.length_drop]; rw [Nat.min_eq_left (by omega)]⟩
theorem keepR_inv (hs : Sim cx ι st ts w) (h : Inv cx w ι st.σ m ι' σ') {refs : List Nat} {r : Nat} {s : Slc} {c' : Cell} {v : Value} (hc : CR cx w ι st.σ (.ref r s) v) (hk : keepR st refs r s σ' m = (c', σ'', m')) :
    ∃ ι'', Inv cx w ι st.σ m' ι'' σ'' ∧ Ext ι' σ' ι'' σ'' ∧ CRx cx w ι st.σ ι'' σ'' c' v ∧ ((∃ r' s', c' = .ref r' s') ∨ c' = .dead) := by
  have dead : (Cell.dead, σ', m) = (c', σ'', m') → ∃ ι'', Inv cx w ι st.σ m' ι'' σ'' ∧ Ext ι' σ' ι'' σ'' ∧ CRx cx w ι st.σ ι'' σ'' c' v ∧ ((∃ r' s', c' = .ref r' s') ∨ c' = .dead) := fun h1 => by
    cases h1
    exact ⟨ι', h, Ext.refl _ _, trivial, .inr rfl⟩
  simp only [keepR] at hk
  split at hk
  · rename_i g hg
    have hr := reg_eq.1 hg
    have hv := hc.2 g hr
    split at hk
    · exact dead hk
    · rename_i hnv
      split at hk
      · rename_i r' ho hm
        cases hk
        obtain ⟨g0, g2, h1, h2, h3, h5, h6⟩ := h.at' r r' hm
        refine ⟨ι', h, Ext.refl _ _, ⟨live_lt h2, fun g1 h4 => ?_⟩, .inl ⟨_, _, rfl⟩⟩
        obtain rfl := live_fun h2 h4
        obtain rfl := live_fun hr h1
        rw [h3, h5, h6]
        exact hv
      · exact dead hk
      · rename_i ho hm
        split at hk
        · rename_i n hn
          cases hk
          have := shut_spec hn
          subst this
          obtain ⟨h1, rfl⟩ := hv
          rw [app_eq]
          refine ⟨_, h.addOwn hs hr ho hnv hm n h1 none (.inl rfl), Ext.add _ _ _ _, ?_, .inl ⟨_, _, rfl⟩⟩
          rw [count_eq]
          refine ⟨by simp, fun g1 h4 => ?_⟩
          rcases live_new.1 h4 with h5 | ⟨_, rfl⟩
          · exact absurd (live_lt h5) (Nat.lt_irrefl _)
          · show Value.slice _ _ _ = Value.slice (lay ι' σ'.length (ι r) σ'.length).1 (g.l.take n).length (lay ι' σ'.length (ι r) σ'.length).2
            unfold lay
            rw [if_pos rfl, List.length_take, Nat.min_eq_left h1]
        · cases hk
          rw [app_eq, count_eq]
          have := h.addOwn hs hr ho hnv hm g.l.length (Nat.le_refl _) (some σ'.length) (.inr ⟨rfl, rfl⟩)
          rw [List.take_of_length_le (Nat.le_refl _), show (⟨g.t, g.e, g.l, true, g.fr⟩ : Reg) = g from by rw [← ho]] at this
          refine ⟨_, this, Ext.add _ _ _ _, ?_, .inl ⟨_, _, rfl⟩⟩
          refine ⟨by simp, fun g1 h4 => ?_⟩
          rcases live_new.1 h4 with h5 | ⟨_, rfl⟩
          · exact absurd (live_lt h5) (Nat.lt_irrefl _)
          · unfold lay
            rw [if_pos rfl]
            exact hv
      · rename_i ho
        cases hk
        rw [app_eq, count_eq]
        have hrd := (hs.regs r g hr).2 (by assumption)
        have h1 := view_rd hrd hv
        obtain ⟨A', c', rfl⟩ := hv.view
        refine ⟨_, h.addRd ⟨g.t, g.e, view g.l s, false, g.fr⟩ rfl A' c' h1, Ext.add _ _ _ _, ?_, .inl ⟨_, _, rfl⟩⟩
        refine ⟨by simp, fun g1 h4 => ?_⟩
        rcases live_new.1 h4 with h5 | ⟨_, rfl⟩
        · exact absurd (live_lt h5) (Nat.lt_irrefl _)
        · unfold lay
          rw [if_pos rfl]
          rfl
  · exact dead hk
theorem keepV_inv (hs : Sim cx ι st ts w) {refs : List Nat} : ∀ {l l' : List RC} {xs : List Value} {m m' : List (Nat × Option Nat)} {ι' : Lay} {σ' σ'' : List (Option Reg)}, Inv cx w ι st.σ m ι' σ' → All2 (CR cx w ι st.σ) (cellsOf l) xs → keepV st refs l σ' m = (l', σ'', m') →
    ∃ ι'', Inv cx w ι st.σ m' ι'' σ'' ∧ Ext ι' σ' ι'' σ'' ∧ All2 (CRx cx w ι st.σ ι'' σ'') (cellsOf l') xs
  | [], _, _, _, _, ι', _, _, h, .nil, hk => by
    cases hk
    exact ⟨ι', h, Ext.refl _ _, .nil⟩
  | c :: l, l', _, m, m', ι', σ', σ'', h, .cons (b := v) (m := vs) h1 h2, hk => by
    have other : (keepV st refs (c :: l) σ' m = match keepV st refs l σ' m with | (l1, σ1, m1) => (c :: l1, σ1, m1)) → CRx cx w ι st.σ ι' σ' c.cell v → (∀ ι2 σ2, CRx cx w ι st.σ ι' σ' c.cell v → Ext ι' σ' ι2 σ2 → CRx cx w ι st.σ ι2 σ2 c.cell v) →
        ∃ ι'', Inv cx w ι st.σ m' ι'' σ'' ∧ Ext ι' σ' ι'' σ'' ∧ All2 (CRx cx w ι st.σ ι'' σ'') (cellsOf l') (v :: vs) := fun he hcx hext => by
      rw [he] at hk
      obtain ⟨⟨l2, σ2, m2⟩, hk2⟩ : ∃ x, keepV st refs l σ' m = x := ⟨_, rfl⟩
      rw [hk2] at hk
      cases hk
      obtain ⟨ι2, h6, h7, h8⟩ := keepV_inv hs h h2 hk2
      exact ⟨ι2, h6, h7, .cons (hext ι2 _ hcx h7) h8⟩
    cases c with
    | ref r s =>
      simp only [keepV] at hk
      obtain ⟨⟨c1, σ1, m1⟩, hk1⟩ : ∃ x, keepR st refs r s σ' m = x := ⟨_, rfl⟩
      rw [hk1] at hk
      dsimp only at hk
      obtain ⟨⟨l2, σ2, m2⟩, hk2⟩ : ∃ x, keepV st refs l σ1 m1 = x := ⟨_, rfl⟩
      rw [hk2] at hk
      cases hk
      obtain ⟨ι1, h3, h4, h5, h5'⟩ := keepR_inv hs h h1 hk1
      obtain ⟨ι2, h6, h7, h8⟩ := keepV_inv hs h3 h2 hk2
      refine ⟨ι2, h6, h4.trans h7, .cons ?_ h8⟩
      rcases h5' with ⟨r', s', rfl⟩ | rfl
      · exact h5.ext h7
      · trivial
    | int k n => exact other rfl h1 (fun _ _ h _ => h)
    | bool b => exact other rfl h1 (fun _ _ h _ => h)
    | str s => exact other rfl h1 (fun _ _ h _ => h)
    | emp => exact other rfl h1 (fun _ _ h _ => h)
    | dead => exact other rfl h1 (fun _ _ h _ => h)
theorem varOf_eq {g : Reg} {rcs : List RC} (h : varOf g = some rcs) : ∃ t n fr, g = ⟨t, .var n, [rcs], true, fr⟩ := by
  unfold varOf at h
  split at h
  · cases h; exact ⟨_, _, _, rfl⟩
  · cases h
theorem keepC_inv (hs : Sim cx ι st ts w) (h : Inv cx w ι st.σ m ι' σ') {refs : List Nat} {c c' : Cell} {v : Value} (hc : CR cx w ι st.σ c v) (hk : keepC st refs c σ' m = (c', σ'', m')) :
    ∃ ι'', Inv cx w ι st.σ m' ι'' σ'' ∧ Ext ι' σ' ι'' σ'' ∧ CRx cx w ι st.σ ι'' σ'' c' v := by
  have dead : (Cell.dead, σ', m) = (c', σ'', m') → ∃ ι'', Inv cx w ι st.σ m' ι'' σ'' ∧ Ext ι' σ' ι'' σ'' ∧ CRx cx w ι st.σ ι'' σ'' c' v := fun h1 => by
    cases h1
    exact ⟨ι', h, Ext.refl _ _, trivial⟩
  cases c with
  | ref r s =>
    obtain ⟨ι2, h1, h2, h3, _⟩ := keepR_inv hs h hc hk
    exact ⟨ι2, h1, h2, h3⟩
  | ptr r i j =>
    simp only [keepC] at hk
    split at hk
    · rename_i g hg
      have hr := reg_eq.1 hg
      have hv := hc.2 g hr
      split at hk
      · rename_i r' ho hm
        cases hk
        obtain ⟨g0, g2, h1, h2, h3, h5, h6⟩ := h.at' r r' hm
        refine ⟨ι', h, Ext.refl _ _, live_lt h2, fun g1 h4 => ?_⟩
        obtain rfl := live_fun h2 h4
        obtain rfl := live_fun hr h1
        rw [h3, h5, h6]
        exact hv
      · exact dead hk
      · rename_i ho hm
        split at hk
        · rename_i rcs hvar
          obtain ⟨t, n, fr, rfl⟩ := varOf_eq hvar
          obtain ⟨xs, h1, h2, h3, h4⟩ := (hs.regs r _ hr).1 rfl
          dsimp only at h1 h2 h3 h4
          obtain ⟨⟨rcs', σ1, m1⟩, hk1⟩ : ∃ x, keepV st refs rcs σ' m = x := ⟨_, rfl⟩
          rw [hk1] at hk
          dsimp only at hk
          obtain ⟨ι1, h5, h6, h7⟩ := keepV_inv hs h (h4 rcs rfl) hk1
          split at hk
          · rename_i hm1
            cases hk
            rw [app_eq, count_eq]
            have hrd : RD w (Rdb cx w ι st.σ fr) (.var n) rcs' xs := by
              obtain ⟨v1, v2, e1, h8, h9⟩ := h1
              cases h9
              rw [List.append_nil] at e1
              subst e1
              exact h8
            have := h5.addOwn0 hs (gn := ⟨t, .var n, [rcs'], true, fr⟩) hr rfl hm1 (some σ1.length) rfl (.inr ⟨rfl, rfl, rfl⟩) (.inr ⟨t, n, rcs, rcs', fr, xs, rfl, rfl, h2, hrd, h3, h7⟩)
            refine ⟨_, this, h6.trans (Ext.add _ _ _ _), ?_⟩
            refine ⟨by simp, fun g1 h8 => ?_⟩
            rcases live_new.1 h8 with h9 | ⟨_, rfl⟩
            · exact absurd (live_lt h9) (Nat.lt_irrefl _)
            · unfold lay
              rw [if_pos rfl]
              exact hv
          · cases hk
            exact ⟨ι1, h5, h6, trivial⟩
        · split at hk
          · exact dead hk
          · rename_i hnv
            cases hk
            rw [app_eq, count_eq]
            have := h.addOwn hs hr ho hnv hm g.l.length (Nat.le_refl _) (some σ'.length) (.inr ⟨rfl, rfl⟩)
            rw [List.take_of_length_le (Nat.le_refl _), show (⟨g.t, g.e, g.l, true, g.fr⟩ : Reg) = g from by rw [← ho]] at this
            refine ⟨_, this, Ext.add _ _ _ _, ?_⟩
            refine ⟨by simp, fun g1 h4 => ?_⟩
            rcases live_new.1 h4 with h5 | ⟨_, rfl⟩
            · exact absurd (live_lt h5) (Nat.lt_irrefl _)
            · unfold lay
              rw [if_pos rfl]
              exact hv
      · rename_i ho
        split at hk
        · exact dead hk
        · cases hk
          rw [app_eq, count_eq]
          refine ⟨_, h.addRd g ho (ι r).1 (ι r).2 ((hs.regs r g hr).2 ho), Ext.add _ _ _ _, ?_⟩
          refine ⟨by simp, fun g1 h4 => ?_⟩
          rcases live_new.1 h4 with h5 | ⟨_, rfl⟩
          · exact absurd (live_lt h5) (Nat.lt_irrefl _)
          · unfold lay
            rw [if_pos rfl]
            exact hv
    · exact dead hk
  | _ => cases hk; exact ⟨ι', h, Ext.refl _ _, hc⟩
theorem keepL_inv (hs : Sim cx ι st ts w) {refs : List Nat} : ∀ {cs cs' : List Cell} {vs : List Value} {m m' : List (Nat × Option Nat)} {ι' : Lay} {σ' σ'' : List (Option Reg)}, Inv cx w ι st.σ m ι' σ' → All2 (CR cx w ι st.σ) cs vs → keepL st refs cs σ' m = (cs', σ'', m') →
    ∃ ι'', Inv cx w ι st.σ m' ι'' σ'' ∧ Ext ι' σ' ι'' σ'' ∧ All2 (CRx cx w ι st.σ ι'' σ'') cs' vs
  | [], _, _, _, _, ι', _, _, h, .nil, hk => by
    cases hk
    exact ⟨ι', h, Ext.refl _ _, .nil⟩
  | c :: cs, _, _, m, m', ι', σ', σ'', h, .cons h1 h2, hk => by
    simp only [keepL] at hk
    obtain ⟨⟨c1, σ1, m1⟩, hk1⟩ : ∃ x, keepC st refs c σ' m = x := ⟨_, rfl⟩
    rw [hk1] at hk
    dsimp only at hk
    obtain ⟨⟨c2, σ2, m2⟩, hk2⟩ : ∃ x, keepL st refs cs σ1 m1 = x := ⟨_, rfl⟩
    rw [hk2] at hk
    cases hk
    obtain ⟨ι1, h3, h4, h5⟩ := keepC_inv hs h h1 hk1
    obtain ⟨ι2, h6, h7, h8⟩ := keepL_inv hs h3 h2 hk2
    exact ⟨ι2, h6, h4.trans h7, .cons (h5.ext h7) h8⟩
theorem ownsRow_take {t : TypeId} {size n n' c : Nat} {A : Option Addr} {xs : List Value} (h : w.ownsRow 0 t size (.slice A n c) n xs) (hn : n' ≤ n) : w.ownsRow 0 t size (.slice A n' c) n' (xs.take (n' * size)) := by
  refine ⟨?_, ?_⟩
  · rw [List.length_take, h.1, Nat.min_eq_left (Nat.mul_le_mul_right _ hn)]
  · rcases h.2 with ⟨h1, rfl⟩ | ⟨g, cap, cur, e, h1, h2, h3, h4, h5, h6⟩
    · have : n' = 0 := by omega
      subst this
      exact .inl ⟨h1, rfl⟩
    · injection e with e1 e2 e3
      subst e1 e3
      refine .inr ⟨g, c, cur, rfl, h1, h2, by omega, h4, h5, ?_⟩
      rw [← h6, List.take_take, Nat.min_eq_left (Nat.mul_le_mul_right _ hn)]
/-- The state that has been laid. -/
theorem Inv.sim (hs : Sim cx ι st ts w) (h : Inv cx w ι st.σ m ι' σ') {hid : List Cell} {ts' : List Val} (hh : All2 (CRx cx w ι st.σ ι' σ') hid cx.hid) (hl : ts'.length = st.ts.length)
    (ht : ∀ (i : Nat) (v : Val), ts'[i]? = some v → ∃ u, ts[i]? = some u ∧ VR (CRx cx w ι st.σ ι' σ') v u) : Sim cx ι' ⟨ts', hid, σ'⟩ ts w := by
  have own : ∀ k, Own ι' σ' k → Own ι st.σ k := fun k ⟨r, g, a, h1, h2, h3, h4⟩ => by
    obtain ⟨r1, g1, h5, h6, h7, _⟩ := h.own r g h1 h2
    exact ⟨r1, g1, a, h5, h6, by rw [← h7]; exact h3, h4⟩
  have rdb : ∀ fr k, Rdb cx w ι st.σ fr k → Rdb cx w ι' σ' fr k := fun fr k hk => ⟨hk.1, fun ho => hk.2.1 (own k ho), hk.2.2⟩
  have cell : ∀ c v, CRx cx w ι st.σ ι' σ' c v → CR cx w ι' σ' c v := fun c v hc => by
    cases c with
    | lst t e l fr => exact RD.mono (rdb fr) (fun _ _ => rfl) (show RD w (Rdb cx w ι st.σ fr) (.slice t e) l [v] from hc)
    | _ => exact hc
  refine ⟨hs.keep, fun r g hr => ⟨fun ho => ?_, fun ho => (h.rd r g hr ho).mono (rdb g.fr) (fun _ _ => rfl)⟩, h.apart, hl.trans hs.size, fun i v hv => ?_, hh.imp cell⟩
  · obtain ⟨r1, g1, h1, h2, h3, _, ⟨hnv, n, h4, rfl⟩ | ⟨t, n, rcs, rcs', fr, xs, rfl, rfl, e3, e4, e5, e6⟩⟩ := h.own r g hr ho
    · obtain ⟨xs, h5, h6, h7, _⟩ := (hs.regs r1 g1 h1).1 h2
      rw [h3]
      have hlen : (g1.l.take n).length = n := by rw [List.length_take, Nat.min_eq_left h4]
      refine ⟨xs.take (n * g1.e.size), (h5.take n).mono (rdb g1.fr) (fun _ _ => rfl), ?_, h7, VarR.nv hnv⟩
      dsimp only
      rw [hlen]
      exact ownsRow_take h6 h4
    · rw [h3]
      refine ⟨xs, ⟨xs, [], by simp, e4.mono (rdb fr) (fun _ _ => rfl), rfl⟩, e3, e5, fun rcs2 e => ?_⟩
      cases e
      exact e6.imp cell
  · obtain ⟨u, h1, h2⟩ := ht i v hv
    exact ⟨u, h1, h2.imp cell⟩
theorem canonGo_sim (hs : Sim cx ι st ts w) {refs : List Nat} : ∀ (lv : List Live) {hid : List Cell} {ts' : List Val} {m : List (Nat × Option Nat)} {ι' : Lay} {σ' : List (Option Reg)}, Inv cx w ι st.σ m ι' σ' → All2 (CRx cx w ι st.σ ι' σ') hid cx.hid → ts'.length = st.ts.length →
    (∀ (i : Nat) (v : Val), ts'[i]? = some v → ∃ u, ts[i]? = some u ∧ VR (CRx cx w ι st.σ ι' σ') v u) → ∃ ι'', Sim cx ι'' (canonGo st refs lv hid ts' σ' m) ts w
  | [], hid, ts', m, ι', σ', h, hh, hl, ht => ⟨ι', h.sim hs hh hl ht⟩
  | ⟨t, b⟩ :: lv, hid, ts', m, ι', σ', h, hh, hl, ht => by
    have set : ∀ {ι2 : Lay} {σ2 : List (Option Reg)} {v : Val} {u : Value}, Ext ι' σ' ι2 σ2 → ts[t]? = some u → VR (CRx cx w ι st.σ ι2 σ2) v u → (put ts' t v).length = st.ts.length ∧ ∀ (i : Nat) (x : Val), (put ts' t v)[i]? = some x → ∃ u, ts[i]? = some u ∧ VR (CRx cx w ι st.σ ι2 σ2) x u := fun {ι2 σ2 v u} he hu hv => by
      rw [put_eq]
      refine ⟨by rw [List.length_set]; exact hl, fun i x hx => ?_⟩
      rw [List.getElem?_set] at hx
      by_cases hd : t = i
      · subst hd
        rw [if_pos rfl] at hx
        split at hx
        · obtain rfl := Option.some.inj hx
          exact ⟨u, hu, hv⟩
        · cases hx
      · rw [if_neg hd] at hx
        obtain ⟨u', h1, h2⟩ := ht i x hx
        exact ⟨u', h1, h2.imp fun _ _ hc => hc.ext he⟩
    simp only [canonGo]
    split
    · rename_i c hc
      obtain ⟨⟨c', σ2, m2⟩, hk⟩ : ∃ x, keepC st refs c σ' m = x := ⟨_, rfl⟩
      rw [hk]
      dsimp only
      rw [nth_eq] at hc
      obtain ⟨u, h1, h2⟩ := hs.tmps t _ hc
      obtain ⟨ι2, h3, h4, h5⟩ := keepC_inv hs h (show CR cx w ι st.σ c u from h2) hk
      obtain ⟨h6, h7⟩ := set (v := .v (.one c')) h4 h1 h5
      exact canonGo_sim hs lv h3 (hh.imp fun _ _ hc => hc.ext h4) h6 h7
    · rename_i cs hc
      obtain ⟨⟨cs', σ2, m2⟩, hk⟩ : ∃ x, keepL st refs cs σ' m = x := ⟨_, rfl⟩
      rw [hk]
      dsimp only
      rw [nth_eq] at hc
      obtain ⟨u, h1, vs, rfl, h2⟩ := hs.tmps t _ hc
      obtain ⟨ι2, h3, h4, h5⟩ := keepL_inv hs h h2 hk
      obtain ⟨h6, h7⟩ := set (v := .v (.agg cs')) h4 h1 ⟨vs, rfl, h5⟩
      exact canonGo_sim hs lv h3 (hh.imp fun _ _ hc => hc.ext h4) h6 h7
    · exact canonGo_sim hs lv h hh hl ht
theorem canonAll_less (refs : List Nat) (lv : List Live) (st : State) : Less st (canonAll refs lv st) := by
  intro cx ι ts w hs
  unfold canonAll
  split
  rename_i hid σ m hk
  obtain ⟨ι2, h1, h2, h3⟩ := keepL_inv hs Inv.nil hs.hid hk
  refine canonGo_sim hs lv h1 h3 (by rw [deads_eq, count_eq, List.length_replicate]) fun i v hi => ?_
  rw [deads_eq, List.getElem?_replicate] at hi
  split at hi
  · rename_i hlt
    obtain rfl := Option.some.inj hi
    rw [count_eq, hs.size] at hlt
    exact ⟨ts[i], by simp [hlt], trivial⟩
  · cases hi
theorem freezeP_less (st : State) (q : Nat) : Less st (freezeP st q) := by
  unfold freezeP
  split
  · rename_i g hg
    split
    · rename_i cm _ hemb
      intro cx ι ts w hs
      have hlive := reg_eq.1 hg
      have hcr : CRs cx ι st w (.ref q .all) (.slice (ι q).1 g.l.length (ι q).2) := ⟨live_lt hlive, fun g' hg' => by
        obtain rfl := live_fun hlive hg'
        rfl⟩
      have hembL : embL st [.ref q .all] = some [cm] := by simp [embL, hemb]
      exact ⟨ι, (embL_rel hs (All2.cons hcr .nil) hembL).1⟩
    · exact Less.refl st
  · exact Less.refl st
theorem lendGo_less : ∀ (lv : List Live) (st : State), Less st (lendGo st lv)
  | [], st => Less.refl st
  | ⟨t, true⟩ :: lv, st => by
    simp only [lendGo]
    split
    · rename_i q _ _ _
      exact (freezeP_less st q).trans (lendGo_less lv _)
    · rename_i c _ hc
      split
      · rename_i cs hcs
        intro cx ι ts w hs
        rw [nth_eq] at hc
        obtain ⟨u, h1, h2⟩ := hs.tmps t _ hc
        have h2 : CompR (CRs cx ι st w) c u := h2
        have h3 := (embL_rel hs (cells_rel h2 hcs) hcs).1
        exact lendGo_less lv _ cx ι ts w h3
      · exact lendGo_less lv st
    · exact lendGo_less lv st
  | ⟨t, false⟩ :: lv, st => by
    simp only [lendGo]
    exact lendGo_less lv st
theorem canon_less (live : List Live) (st : State) : Less st (canon live st) := (lendGo_less live st).trans (canonAll_less _ _ _)
theorem canonIf_less (l : Option (List Live)) (st : State) : Less st (canonIf l st) := by
  cases l with
  | none => exact Less.refl st
  | some l => exact canon_less l st
end
end Go.Proofs.Ytpfjneaoankllaa.Ev

/-! A state that is laid by a shape says no more than the one it was read off. -/
namespace Go.Proofs.Ytpfjneaoankllaa.Ev
open Go.RowKit
section
variable {cx : Cx} {ι ι' : Lay} {st : State} {ts : Array Value} {w : World}
theorem hd_cons {α : Type} {l : List Type} (x : α) (y : dens l) : hd (cons x y) = x := by cases l <;> rfl
theorem tl_cons {α : Type} {l : List Type} (x : α) (y : dens l) : tl (cons x y) = y := by cases l <;> rfl
theorem cons_eta {α : Type} {l : List Type} (x : dens (α :: l)) : cons (hd x) (tl x) = x := by cases l <;> rfl
theorem split_join : ∀ (a : List Type) {b : List Type} (x : dens a) (y : dens b), split a (join a x y) = (x, y)
  | [], _, _, _ => rfl
  | a :: r, b, x, y => by
    show (match split r (tl (cons (hd x) (join r (tl x) y))) with | (y', z) => (cons (hd (cons (hd x) (join r (tl x) y))) y', z)) = (x, y)
    rw [tl_cons, hd_cons, split_join r]
    exact Prod.ext (cons_eta x) rfl
def CW (c c' : Cell) : Prop := c' = c ∨ c' = .dead
theorem SC.load_spec {s : SC} {c : Cell} {x : dens s.ty} (h : s.load c = some x) : CW c (s.mk x) := by
  cases s with
  | dead => exact .inr rfl
  | int k =>
    cases c <;> simp only [SC.load] at h <;> try (cases h; done)
    split at h
    · rename_i e; subst e; cases h; exact .inl rfl
    · cases h
  | bool => cases c <;> simp only [SC.load] at h <;> cases h; exact .inl rfl
  | str => cases c <;> simp only [SC.load] at h <;> cases h; exact .inl rfl
  | emp => cases c <;> simp only [SC.load] at h <;> cases h; exact .inl rfl
  | boolc b => cases b <;> cases c <;> (try (rename_i b'; cases b')) <;> simp [SC.load] at h <;> exact .inl rfl
  | lst t e fr =>
    cases c <;> simp only [SC.load] at h <;> try (cases h; done)
    split at h
    · rename_i e; obtain ⟨rfl, rfl, rfl⟩ := e; cases h; exact .inl rfl
    · cases h
  | ref r =>
    cases c <;> simp only [SC.load] at h <;> try (cases h; done)
    rename_i r' s
    cases s <;> simp only at h <;> try (cases h; done)
    split at h
    · rename_i e; subst e; exact .inl rfl
    · cases h
  | refp r =>
    cases c <;> simp only [SC.load] at h <;> try (cases h; done)
    rename_i r' s
    cases s <;> simp only at h <;> try (cases h; done)
    split at h
    · rename_i e; subst e; cases h; exact .inl rfl
    · cases h
  | refs r =>
    cases c <;> simp only [SC.load] at h <;> try (cases h; done)
    rename_i r' s
    cases s <;> simp only at h <;> try (cases h; done)
    split at h
    · rename_i e; subst e; cases h; exact .inl rfl
    · cases h
  | ptr r i j =>
    cases c <;> simp only [SC.load] at h <;> try (cases h; done)
    split at h
    · rename_i e; obtain ⟨rfl, rfl, rfl⟩ := e; exact .inl rfl
    · cases h
  | ptrv r j =>
    cases c <;> simp only [SC.load] at h <;> try (cases h; done)
    split at h
    · rename_i e; obtain ⟨rfl, rfl⟩ := e; cases h; exact .inl rfl
    · cases h
  | fn f =>
    cases c <;> simp only [SC.load] at h <;> try (cases h; done)
    split at h
    · rename_i e; subst e; exact .inl rfl
    · cases h
theorem loadL_spec : ∀ {s : List SC} {cs : List Cell} {x : dens (tyL s)}, loadL s cs = some x → All2 CW cs (mkL s x)
  | [], [], _, _ => .nil
  | [], _ :: _, _, h => by simp [loadL] at h
  | _ :: _, [], _, h => by simp [loadL] at h
  | s :: ss, c :: cs, x, h => by
    simp only [loadL] at h
    split at h
    · rename_i y hy
      split at h
      · rename_i z hz
        cases h
        show All2 CW (c :: cs) (match split s.ty (join s.ty y z) with | (y, z) => s.mk y :: mkL ss z)
        rw [split_join]
        exact .cons (SC.load_spec hy) (loadL_spec hz)
      · cases h
    · cases h
inductive VW : Val → Val → Prop
  | dead (v : Val) : VW v .dead
  | one {c c' : Cell} : CW c c' → VW (.v (.one c)) (.v (.one c'))
  | agg {cs cs' : List Cell} : All2 CW cs cs' → VW (.v (.agg cs)) (.v (.agg cs'))
theorem loadV_spec : ∀ {s : List SV} {vs : List Val} {x : dens (tyV s)}, loadV s vs = some x → All2 VW vs (mkV s x)
  | [], [], _, _ => .nil
  | [], _ :: _, _, h => by simp [loadV] at h
  | _ :: _, [], _, h => by rename_i s _ _; cases s <;> simp [loadV] at h
  | .dead :: ss, v :: vs, x, h => by
    simp only [loadV] at h
    exact .cons (.dead v) (loadV_spec h)
  | .one c :: ss, .v (.one d) :: vs, x, h => by
    simp only [loadV] at h
    split at h
    · rename_i y hy
      split at h
      · rename_i z hz
        cases h
        show All2 VW _ (match split c.ty (join c.ty y z) with | (y, z) => .v (.one (c.mk y)) :: mkV ss z)
        rw [split_join]
        exact .cons (.one (SC.load_spec hy)) (loadV_spec hz)
      · cases h
    · cases h
  | .agg cs :: ss, .v (.agg ds) :: vs, x, h => by
    simp only [loadV] at h
    split at h
    · rename_i y hy
      split at h
      · rename_i z hz
        cases h
        show All2 VW _ (match split (tyL cs) (join (tyL cs) y z) with | (y, z) => .v (.agg (mkL cs y)) :: mkV ss z)
        rw [split_join]
        exact .cons (.agg (loadL_spec hy)) (loadV_spec hz)
      · cases h
    · cases h
  | .one _ :: _, .v (.agg _) :: _, _, h => by simp [loadV] at h
  | .one _ :: _, .tup _ :: _, _, h => by simp [loadV] at h
  | .one _ :: _, .dead :: _, _, h => by simp [loadV] at h
  | .one _ :: _, .un :: _, _, h => by simp [loadV] at h
  | .agg _ :: _, .v (.one _) :: _, _, h => by simp [loadV] at h
  | .agg _ :: _, .tup _ :: _, _, h => by simp [loadV] at h
  | .agg _ :: _, .dead :: _, _, h => by simp [loadV] at h
  | .agg _ :: _, .un :: _, _, h => by simp [loadV] at h
/-- A row that says less: what was new may pass for old. -/
inductive RG : Reg → Reg → Prop
  | row (g : Reg) (fr' : Bool) (h : fr' = true → g.fr = true) : RG g ⟨g.t, g.e, g.l, g.own, fr'⟩
  | var {t : TypeId} {n : Nat} {rcs rcs' : List RC} {fr fr' : Bool} (h : fr' = true → fr = true) (hc : All2 CW (cellsOf rcs) (cellsOf rcs')) : RG ⟨t, .var n, [rcs], true, fr⟩ ⟨t, .var n, [rcs'], true, fr'⟩
theorem RG.own {g g' : Reg} (h : RG g g') : g'.own = g.own := by cases h <;> rfl
theorem RG.fr {g g' : Reg} (h : RG g g') : g'.fr = true → g.fr = true := by cases h <;> assumption
def RW (o o' : Option Reg) : Prop := ∃ g g', o = some g ∧ o' = some g' ∧ RG g g'
theorem rcT_cells : ∀ (l : List Cell), All2 CW l (cellsOf (rcT l))
  | [] => .nil
  | c :: r => .cons (by cases c <;> first | exact .inl rfl | exact .inr rfl) (rcT_cells r)
theorem CW.trans {a b c : Cell} (h : CW a b) (h' : CW b c) : CW a c := by
  rcases h' with rfl | rfl
  · exact h
  · exact .inr rfl
theorem CW.trans' {l m n : List Cell} (h : All2 CW l m) (h' : All2 CW m n) : All2 CW l n := by
  induction h generalizing n with
  | nil => exact h'
  | cons h1 h2 ih =>
    cases h' with
    | cons h3 h4 => exact .cons (h1.trans h3) (ih h4)
theorem loadR_spec : ∀ {s : List SR} {σ : List (Option Reg)} {x : dens (tyR s)}, loadR s σ = some x → All2 RW σ (mkR s x)
  | [], [], _, _ => .nil
  | [], _ :: _, _, h => by simp [loadR] at h
  | _ :: _, [], _, h => by simp [loadR] at h
  | _ :: _, none :: _, _, h => by simp [loadR] at h
  | .row t' e' own' fr' :: ss, some ⟨t, e, l, own, fr⟩ :: σ, x, h => by
    simp only [loadR] at h
    split at h
    · rename_i hc
      split at h
      · rename_i z hz
        obtain ⟨rfl, rfl, rfl, hi⟩ := hc
        cases h
        show All2 RW _ (some ⟨t, e, hd (cons l z), own, fr'⟩ :: mkR ss (tl (cons l z)))
        rw [hd_cons, tl_cons]
        refine .cons ⟨⟨t, e, l, own, fr⟩, _, rfl, rfl, .row ⟨t, e, l, own, fr⟩ fr' fun hf => ?_⟩ (loadR_spec hz)
        rw [hf] at hi
        exact hi
      · cases h
    · cases h
  | .var t' n' fr' cs :: ss, some ⟨t, e, l, own, fr⟩ :: σ, x, h => by
    cases e with
    | var n =>
      cases l with
      | nil => simp [loadR] at h
      | cons rcs l =>
        cases l with
        | cons _ _ => simp [loadR] at h
        | nil =>
          cases own with
          | false => simp [loadR] at h
          | true =>
            simp only [loadR] at h
            split at h
            · rename_i hc
              obtain ⟨rfl, rfl, hi⟩ := hc
              split at h
              · rename_i y hy
                split at h
                · rename_i z hz
                  cases h
                  show All2 RW _ (match split (tyL cs) (join (tyL cs) y z) with | (y, z) => some ⟨t, .var n, [rcT (mkL cs y)], true, fr'⟩ :: mkR ss z)
                  rw [split_join]
                  refine .cons ⟨_, _, rfl, rfl, .var (fun hf => ?_) (CW.trans' (loadL_spec hy) (rcT_cells _))⟩ (loadR_spec hz)
                  rw [hf] at hi
                  exact hi
                · cases h
              · cases h
            · cases h
    | _ => simp [loadR] at h
theorem All2.at' {α β : Type} {R : α → β → Prop} : ∀ {l : List α} {m : List β}, All2 R l m → ∀ (i : Nat) b, m[i]? = some b → ∃ a, l[i]? = some a ∧ R a b
  | _, _, .nil, i, a, h => by simp at h
  | _, _, .cons h1 h2, 0, a, h => by simp at h; subst h; exact ⟨_, by simp, h1⟩
  | _, _, .cons h1 h2, i + 1, a, h => by simp at h; obtain ⟨b, h3, h4⟩ := h2.at' i a h; exact ⟨b, by simpa using h3, h4⟩
theorem All2.comp {α β γ : Type} {R : α → β → Prop} {S : α → γ → Prop} {T : γ → β → Prop} (h : ∀ a b c, S a c → R a b → T c b) : ∀ {l : List α} {m : List β} {n : List γ}, All2 S l n → All2 R l m → All2 T n m
  | _, _, _, .nil, .nil => .nil
  | _, _, _, .cons h1 h2, .cons h3 h4 => .cons (h _ _ _ h1 h3) (h2.comp h h4)
theorem load_less {sh : Shape} {st : State} {x : dens sh.ty} (h : sh.load st = some x) : Less st (sh.mk' x) := by
  intro cx ι ts w hs
  unfold Shape.load at h
  split at h
  · rename_i a ha
    split at h
    · rename_i b hb
      split at h
      · rename_i c hc
        cases h
        have e : sh.mk' (join (tyR sh.σ) a (join (tyL sh.hid) b c)) = ⟨mkV sh.ts c, mkL sh.hid b, mkR sh.σ a⟩ := by
          unfold Shape.mk'
          rw [split_join]
          dsimp only
          rw [split_join]
        rw [e]
        have hσ := loadR_spec ha
        have hh := loadL_spec hb
        have ht := loadV_spec hc
        have back : ∀ r g', live (mkR sh.σ a) r g' → ∃ g, live st.σ r g ∧ RG g g' := fun r g' hl => by
          obtain ⟨o, h1, g, g2, rfl, h2, h3⟩ := hσ.at' r _ hl
          obtain rfl := Option.some.inj h2
          exact ⟨g, h1, h3⟩
        have own : ∀ k, Own ι (mkR sh.σ a) k → Own ι st.σ k := fun k ⟨r, g', ad, h1, h2, h3⟩ => by
          obtain ⟨g, h4, h5⟩ := back r g' h1
          exact ⟨r, g, ad, h4, h5.own ▸ h2, h3⟩
        have rdb : ∀ fr k, Rdb cx w ι st.σ fr k → Rdb cx w ι (mkR sh.σ a) fr k := fun fr k hk => ⟨hk.1, fun ho => hk.2.1 (own k ho), hk.2.2⟩
        have rdb' : ∀ fr fr' k, (fr' = true → fr = true) → Rdb cx w ι st.σ fr k → Rdb cx w ι (mkR sh.σ a) fr' k := fun fr fr' k hf hk => rdb fr' k (hk.le hf)
        have hlen := hσ.length
        have cr : ∀ c v, CR cx w ι st.σ c v → CR cx w ι (mkR sh.σ a) c v := fun c v hv => by
          cases c with
          | ref r s =>
            refine ⟨by rw [← hlen]; exact hv.1, fun g' hg => ?_⟩
            obtain ⟨g, h4, h5⟩ := back r g' hg
            cases h5 with
            | row => exact hv.2 g h4
            | var =>
              have := hv.2 _ h4
              exact this
          | ptr r i j =>
            refine ⟨by rw [← hlen]; exact hv.1, fun g' hg => ?_⟩
            obtain ⟨g, h4, h5⟩ := back r g' hg
            cases h5 with
            | row => exact hv.2 g h4
            | var =>
              have := hv.2 _ h4
              exact this
          | lst t e l fr => exact RD.mono (rdb fr) (fun _ _ => rfl) (show RD w (Rdb cx w ι st.σ fr) (.slice t e) l [v] from hv)
          | _ => exact hv
        have cw : ∀ c v c', CW c c' → CR cx w ι st.σ c v → CR cx w ι (mkR sh.σ a) c' v := fun c v c' h1 h2 => by
          rcases h1 with rfl | rfl
          · exact cr _ _ h2
          · trivial
        have vw : ∀ x v x', VW x x' → VR (CR cx w ι st.σ) x v → VR (CR cx w ι (mkR sh.σ a)) x' v := fun x v x' h1 h2 => by
          cases h1 with
          | dead => trivial
          | one h1 => exact cw _ _ _ h1 h2
          | agg h1 =>
            obtain ⟨vs, rfl, h2⟩ := h2
            exact ⟨vs, rfl, h1.comp cw h2⟩
        refine ⟨ι, hs.keep, fun r g' hg => ?_, fun r r' g g' ad ad' h1 h2 h3 h4 => ?_, ?_, fun i v hv => ?_, hh.comp cw hs.hid⟩
        · obtain ⟨g, h1, h2⟩ := back r g' hg
          obtain ⟨h3, h4⟩ := hs.regs r g h1
          cases h2 with
          | row _ fr' h2 =>
            refine ⟨fun ho => ?_, fun ho => (h4 ho).mono (fun k => rdb' g.fr fr' k h2) (fun _ _ => rfl)⟩
            obtain ⟨xs, h5, h6, h7, h8⟩ := h3 ho
            exact ⟨xs, h5.mono (fun k => rdb' g.fr fr' k h2) (fun _ _ => rfl), h6, fun a ha => ⟨fun hf => (h7 a ha).1 (h2 hf), (h7 a ha).2⟩, h8.imp cr⟩
          | @var t n rcs rcs' fr fr' h2 hc =>
            refine ⟨fun ho => ?_, fun ho => by cases ho⟩
            obtain ⟨xs, h5, h6, h7, h8⟩ := h3 rfl
            obtain ⟨v1, v2, e1, e2, e3⟩ := h5
            refine ⟨xs, ⟨v1, v2, e1, e2, e3⟩, h6, fun a ha => ⟨fun hf => (h7 a ha).1 (h2 hf), (h7 a ha).2⟩, fun rcs2 e => ?_⟩
            obtain rfl : rcs' = rcs2 := by cases e; rfl
            exact hc.comp cw (h8 rcs rfl)
        · obtain ⟨g1, h5, h5'⟩ := back r g h1
          obtain ⟨g2, h6, h6'⟩ := back r' g' h2
          exact hs.apart r r' g1 g2 ad ad' h5 h6 (h5'.own ▸ h3) (h6'.own ▸ h4)
        · show (mkV sh.ts c).length = ts.size
          rw [← ht.length]
          exact hs.size
        · obtain ⟨x, h1, h2⟩ := ht.at' i v hv
          obtain ⟨u, h3, h4⟩ := hs.tmps i x h1
          exact ⟨u, h3, vw _ _ _ h2 h4⟩
      · cases h
    · cases h
  · cases h
end
end Go.Proofs.Ytpfjneaoankllaa.Ev

/-! Regions that draw their order: what yields a value may be taken first. -/
namespace Go.Proofs.Ytpfjneaoankllaa.Ev
open Go.RowKit
section
variable {P : Program} {ops : Array Oper} {Q : Exit → Act → World → Prop} {md : Region.Mode} {S : World → Prop} {D : Nat → Bool}
def Closed (md : Region.Mode) (ops : Array Oper) (listed : Array Bool) : Prop :=
  ∀ j oj, ops[j]? = some oj → listed.getD j false = true → ∀ e ∈ oj.after, Region.binds md e = true → listed.getD e.on false = true
theorem shutB_spec {listed : Array Bool} (h : shutB md ops listed = true) : Closed md ops listed := by
  intro j oj hj hl e he hb
  have hlt : j < ops.size := (Array.getElem?_eq_some_iff.1 hj).1
  have h1 := List.all_eq_true.1 h j (List.mem_range.2 hlt)
  simp only [hl, hj, Bool.not_true, Bool.false_or] at h1
  have h2 := Array.all_eq_true_iff_forall_mem.1 h1 e he
  simpa [hb] using h2
theorem Closed.set {listed : Array Bool} {i : Nat} (h : Closed md ops listed) (hi : i ∈ Region.ready md ops listed) : Closed md ops (listed.setIfInBounds i true) := by
  obtain ⟨_, oi, hoi, hall⟩ := mem_ready.1 hi
  intro j oj hj hl e he hb
  by_cases hij : i = j
  · subst hij
    have : oj = oi := Option.some.inj (hj.symm.trans hoi)
    subst this
    exact getD_set_true (hall e he hb)
  · rw [getD_set_ne false hij] at hl
    exact getD_set_true (h j oj hj hl e he hb)
theorem waits_listed {listed : Array Bool} {i : Nat} (hc : Closed md ops listed) : ∀ (fuel d : Nat), waitsB md ops i fuel d = true → listed.getD d false = true → listed.getD i false = true
  | 0, _, h, _ => by simp [waitsB] at h
  | fuel + 1, d, h, hl => by
    unfold waitsB at h
    cases ho : ops[d]? with
    | none => rw [ho] at h; simp at h
    | some o =>
      rw [ho] at h
      obtain ⟨e, he, h1⟩ := Array.any_eq_true'.1 h
      simp only [Bool.and_eq_true, Bool.or_eq_true, beq_iff_eq] at h1
      have hle := hc d o ho hl e he h1.1
      rcases h1.2 with h2 | h2
      · rw [← h2]; exact hle
      · exact waits_listed hc fuel e.on h2 hle
theorem waits_not_ready {listed : Array Bool} {i d fuel : Nat} (hc : Closed md ops listed) (hr : waitsB md ops i fuel d = true) (hun : listed.getD i true = false) : d ∉ Region.ready md ops listed := by
  intro hd
  obtain ⟨_, o, ho, hall⟩ := mem_ready.1 hd
  have hi : listed.getD i false = true := by
    cases fuel with
    | zero => simp [waitsB] at hr
    | succ n =>
      unfold waitsB at hr
      rw [ho] at hr
      obtain ⟨e, he, h1⟩ := Array.any_eq_true'.1 hr
      simp only [Bool.and_eq_true, Bool.or_eq_true, beq_iff_eq] at h1
      have hle := hall e he h1.1
      rcases h1.2 with h2 | h2
      · rw [← h2]; exact hle
      · exact waits_listed hc n e.on h2 hle
  rcases Nat.lt_or_ge i listed.size with h' | h'
  · simp [h'] at hun hi
    rw [hun] at hi
    cases hi
  · simp [Array.getElem?_eq_none h'] at hun
/-- What an operation leaves, as far as the order of others asks. -/
def Fr (ops : Array Oper) (i : Nat) (a : Act) (w : World) (a' : Act) (w' : World) : Prop :=
  ∀ o, ops[i]? = some o →
    (∀ t x y, o.op = .store t (.tmp x) y → Grew w w' ∨ ∃ p : Addr, a.tmps[x]? = some (.pointer (some p)) ∧ w.heap.size ≤ w'.heap.size ∧ ∀ k, k < w.heap.size → k ≠ p.block → w'.heap[k]? = w.heap[k]?) ∧
    (∀ t x, o.op = .alloc t → o.dst = some x → ∀ p : Addr, a'.tmps[x]? = some (.pointer (some p)) → w.heap.size ≤ p.block)
theorem put_ne {a : Act} {d : Option Tmp} {v : Value} {x : Tmp} (h : d ≠ some x) : (a.put d v).tmps[x]? = a.tmps[x]? := by
  cases d with
  | none => rfl
  | some d =>
    show (a.tmps.setIfInBounds d v)[x]? = _
    rw [Array.getElem?_setIfInBounds, if_neg (fun e => h (by rw [e]))]
theorem wp_put' {o : Oper} {a : Act} {w : World} {K : Act → World → Prop} (hh : o.wp P a w K Q) : o.wp P a w (fun a' w' => (∀ x, o.dst ≠ some x → a'.tmps[x]? = a.tmps[x]?) ∧ K a' w') Q := by
  unfold Oper.wp at *
  generalize (execOp a.eval o).run P w = r at *
  cases r with
  | ok n w' =>
    cases n <;> simp only [Oper.upon] at hh ⊢ <;>
      first
        | exact ⟨fun x hx => put_ne hx, hh⟩
        | exact ⟨fun x hx => put_ne (a := { a with defers := _ :: a.defers }) hx, hh⟩
        | exact Calls.mono hh (fun e w'' he => by cases e <;> first | exact ⟨fun x hx => put_ne hx, he⟩ | exact he)
        | exact Rows.mono hh (fun _ _ he => ⟨fun x hx => put_ne hx, he⟩)
  | halt x w' => cases x <;> simp only [Oper.upon] at hh ⊢ <;> exact hh
theorem wpOp_put' {i : Nat} {oi : Oper} (hi : ops[i]? = some oi) {a : Act} {w : World} {K : Act → World → Prop} (hh : wpOp P ops Q i K a w) : wpOp P ops Q i (fun a' w' => (∀ x, oi.dst ≠ some x → a'.tmps[x]? = a.tmps[x]?) ∧ K a' w') a w := by
  unfold wpOp at *
  simp only [hi] at hh ⊢
  split
  · rename_i hw
    simp only [hw, if_true] at hh
    exact hh.imp wp_put' id
  · rename_i hw
    simp only [hw] at hh
    exact ⟨fun x hx => put_ne hx, hh⟩
theorem looks_store {o : Oper} {t : TypeId} {x : Tmp} {y : Operand} (h : o.op = .store t (.tmp x) y) : x ∈ o.looksAt ops := by
  simp [Oper.looksAt, h, Op.operands]
theorem Fr.back {j : Nat} {oi oj : Oper} {v : Value} {a a' : Act} {w w' : World} (hj : ops[j]? = some oj) (hap : oi.apart ops oj = true) (h : Fr ops j (a.put oi.dst v) w (a'.put oi.dst v) w') : Fr ops j a w a' w' := by
  intro o ho
  obtain rfl : oj = o := Option.some.inj (hj.symm.trans ho)
  obtain ⟨h1, h2⟩ := h _ ho
  obtain ⟨a1, a2, _⟩ := Oper.apart_spec hap
  refine ⟨fun t x y hop => ?_, fun t x hop hd p hp => h2 t x hop hd p ?_⟩
  · rcases h1 t x y hop with h3 | ⟨p, h3, h4⟩
    · exact .inl h3
    · refine .inr ⟨p, ?_, h4⟩
      rw [put_ne (fun e => a1 x e (looks_store hop))] at h3
      exact h3
  · rw [put_ne (fun e => a2 x e hd)]
    exact hp
/-- Whatever order is picked from here on; the world is left as it is by all but D. -/
def wpQ (P : Program) (md : Region.Mode) (ops : Array Oper) (Q : Exit → Act → World → Prop) (D : Nat → Bool) : Nat → Array Bool → Act → World → Prop
  | 0, listed, a, w => Region.ready md ops listed = [] ∧ Q .normal a w
  | fuel + 1, listed, a, w =>
    (Region.ready md ops listed = [] → Q .normal a w) ∧
    ∀ i ∈ Region.ready md ops listed, wpOp P ops Q i (fun a' w' => (D i = false → Grew w w') ∧ Fr ops i a w a' w' ∧ wpQ P md ops Q D fuel (listed.setIfInBounds i true) a' w') a w
theorem wpAny_of_wpQ : ∀ (fuel : Nat) (listed : Array Bool) (a : Act) (w : World), wpQ P md ops Q D fuel listed a w → wpAny P md ops Q fuel listed a w
  | 0, _, _, _, h => h
  | fuel + 1, _, _, _, h => ⟨h.1, fun i hi => wpOp_mono (fun a' w' h' => wpAny_of_wpQ fuel _ a' w' h'.2.2) (h.2 i hi)⟩
theorem wpQ_first {i : Nat} {oi : Oper} {v : Value} (hi : ops[i]? = some oi) (hsel : ∀ (j : Nat) (o : Oper) cs b, ops[j]? = some o → o.op ≠ .select cs b)
    (hQ : ∀ c a w, ¬ Q (.panic c) a w) (hFr : ∀ a w, Fr ops i a w (a.put oi.dst v) w) (hSm : ∀ w w', S w → Grew w w' → S w') (hSD : (∀ w, S w) ∨ D i = false) (n : Nat) :
    ∀ (fuel : Nat) (listed : Array Bool) (a : Act) (w : World),
      (∀ j oj, ops[j]? = some oj → j ≠ i → listed.getD j true = false → (∀ e ∈ oj.after, Region.binds md e = true → e.on ≠ i) → oi.apart ops oj = true) →
      ((∀ w, S w) ∨ (Closed md ops listed ∧ ∀ d, D d = true → listed.getD d true = false → waitsB md ops i n d = true)) →
      i ∈ Region.ready md ops listed → YieldsIf P ops S oi v a → S w →
      wpQ P md ops Q D fuel (listed.setIfInBounds i true) (a.put oi.dst v) w → wpQ P md ops Q D (fuel + 1) listed a w := by
  intro fuel
  induction fuel with
  | zero =>
    intro listed a w _ _ hr hy hS H
    refine ⟨fun h => (by rw [h] at hr; cases hr), fun j hj => ?_⟩
    by_cases hji : j = i
    · subst hji; exact hy.wpOp hi hS ⟨fun _ => Grew.refl _, hFr _ _, H⟩
    · have := ready_mono hj hji
      rw [H.1] at this
      cases this
  | succ fuel ih =>
    intro listed a w hfree hd hr hy hS H
    refine ⟨fun h => (by rw [h] at hr; cases hr), fun j hj => ?_⟩
    by_cases hji : j = i
    · subst hji; exact hy.wpOp hi hS ⟨fun _ => Grew.refl _, hFr _ _, H⟩
    · have h1 := H.2 j (ready_mono hj hji)
      obtain ⟨hjun, oj, hoj, hall⟩ := mem_ready.1 hj
      have hiun := (mem_ready.1 hr).1
      have hnot : ∀ e ∈ oj.after, Region.binds md e = true → e.on ≠ i := fun e he hb heq => by
        have h1 := hall e he hb
        rw [heq] at h1
        rcases Nat.lt_or_ge i listed.size with h' | h'
        · simp [h'] at hiun h1; rw [hiun] at h1; cases h1
        · simp [Array.getElem?_eq_none h'] at h1
      have hstay : ∀ w', (D j = false → Grew w w') → S w' := fun w' hw' => by
        rcases hd with hd | ⟨hc, hd⟩
        · exact hd w'
        · cases hDj : D j with
          | false => exact hSm _ _ hS (hw' hDj)
          | true => exact absurd hj (waits_not_ready hc (hd j hDj hjun) hiun)
      have h2 := wpOp_putIf hoj (hfree j oj hoj hji hjun hnot) (fun cs b => hsel i oi cs b hi) (fun cs b => hsel j oj cs b hoj) (fun c a w h => absurd h (hQ c _ w)) hy h1
      have hfree' : ∀ k ok, ops[k]? = some ok → k ≠ i → (listed.setIfInBounds j true).getD k true = false →
          (∀ e ∈ ok.after, Region.binds md e = true → e.on ≠ i) → oi.apart ops ok = true := fun k ok hk hki hun hno => by
        refine hfree k ok hk hki ?_ hno
        by_cases hjk : j = k
        · subst hjk; exact hjun
        · rw [getD_set_ne true hjk] at hun; exact hun
      have hd' : (∀ w, S w) ∨ (Closed md ops (listed.setIfInBounds j true) ∧ ∀ d, D d = true → (listed.setIfInBounds j true).getD d true = false → waitsB md ops i n d = true) := by
        rcases hd with hd | ⟨hc, hd⟩
        · exact .inl hd
        · refine .inr ⟨hc.set hj, fun d hm hun => hd d hm ?_⟩
          by_cases hjk : j = d
          · subst hjk; exact hjun
          · rw [getD_set_ne true hjk] at hun; exact hun
      refine wpOp_mono (fun a' w' h3 => ⟨h3.2.1, h3.2.2.1.back hoj (hfree j oj hoj hji hjun hnot), ih (listed.setIfInBounds j true) a' w' hfree' hd' (ready_mono hr (Ne.symm hji)) h3.1 (hstay w' h3.2.1) ?_⟩) h2
      rw [Array.setIfInBounds_comm _ _ hji]
      exact h3.2.2.2
/-- A store to a variable that is new in this region. -/
def FreshSt (md : Region.Mode) (ops : Array Oper) (L0 : Array Bool) (d : Nat) : Prop :=
  ∃ (od : Oper) (t : TypeId) (x : Tmp) (y : Operand) (jA : Nat) (oA : Oper) (tA : TypeId), ops[d]? = some od ∧ od.op = .store t (.tmp x) y ∧ ops[jA]? = some oA ∧ oA.op = .alloc tA ∧ oA.dst = some x ∧ L0.getD jA true = false ∧ ∃ e ∈ od.after, Region.binds md e = true ∧ e.on = jA
/-- Allocations write temporaries of their own. -/
def AllocD (ops : Array Oper) : Prop := ∀ (jA : Nat) (oA : Oper) (tA : TypeId) (x : Tmp) (j : Nat) (oj : Oper), ops[jA]? = some oA → oA.op = .alloc tA → oA.dst = some x → ops[j]? = some oj → j ≠ jA → oj.dst ≠ some x
theorem wpQ_first2 {i : Nat} {oi : Oper} {v : Value} (hi : ops[i]? = some oi) (hsel : ∀ (j : Nat) (o : Oper) cs b, ops[j]? = some o → o.op ≠ .select cs b)
    (hQ : ∀ c a w, ¬ Q (.panic c) a w) (hFr : ∀ a w, Fr ops i a w (a.put oi.dst v) w) (hDi : D i = false) (hAD : AllocD ops) (n : Nat) (w0 : World) (L0 : Array Bool) :
    ∀ (fuel : Nat) (listed : Array Bool) (a : Act) (w : World),
      (∀ j oj, ops[j]? = some oj → j ≠ i → listed.getD j true = false → (∀ e ∈ oj.after, Region.binds md e = true → e.on ≠ i) → oi.apart ops oj = true) →
      Closed md ops listed → (∀ d, D d = true → listed.getD d true = false → waitsB md ops i n d = true ∨ FreshSt md ops L0 d) →
      (∀ (jA : Nat) (oA : Oper) (tA : TypeId) (x : Tmp), ops[jA]? = some oA → oA.op = .alloc tA → oA.dst = some x → L0.getD jA true = false → listed.getD jA false = true → ∀ p : Addr, a.tmps[x]? = some (.pointer (some p)) → w0.heap.size ≤ p.block) →
      i ∈ Region.ready md ops listed → YieldsIf P ops (fun w' => Grew w0 w') oi v a → Grew w0 w →
      wpQ P md ops Q D fuel (listed.setIfInBounds i true) (a.put oi.dst v) w → wpQ P md ops Q D (fuel + 1) listed a w := by
  intro fuel
  induction fuel with
  | zero =>
    intro listed a w _ _ _ _ hr hy hS H
    refine ⟨fun h => (by rw [h] at hr; cases hr), fun j hj => ?_⟩
    by_cases hji : j = i
    · subst hji; exact hy.wpOp hi hS ⟨fun _ => Grew.refl _, hFr _ _, H⟩
    · have := ready_mono hj hji
      rw [H.1] at this
      cases this
  | succ fuel ih =>
    intro listed a w hfree hc hd hfr hr hy hS H
    refine ⟨fun h => (by rw [h] at hr; cases hr), fun j hj => ?_⟩
    by_cases hji : j = i
    · subst hji; exact hy.wpOp hi hS ⟨fun _ => Grew.refl _, hFr _ _, H⟩
    · have h1 := H.2 j (ready_mono hj hji)
      obtain ⟨hjun, oj, hoj, hall⟩ := mem_ready.1 hj
      have hiun := (mem_ready.1 hr).1
      have hnot : ∀ e ∈ oj.after, Region.binds md e = true → e.on ≠ i := fun e he hb heq => by
        have h1 := hall e he hb
        rw [heq] at h1
        rcases Nat.lt_or_ge i listed.size with h' | h'
        · simp [h'] at hiun h1; rw [hiun] at h1; cases h1
        · simp [Array.getElem?_eq_none h'] at h1
      have hap := hfree j oj hoj hji hjun hnot
      have h2 := wpOp_put' hoj (wpOp_putIf hoj hap (fun cs b => hsel i oi cs b hi) (fun cs b => hsel j oj cs b hoj) (fun c a w h => absurd h (hQ c _ w)) hy h1)
      have hfree' : ∀ k ok, ops[k]? = some ok → k ≠ i → (listed.setIfInBounds j true).getD k true = false →
          (∀ e ∈ ok.after, Region.binds md e = true → e.on ≠ i) → oi.apart ops ok = true := fun k ok hk hki hun hno => by
        refine hfree k ok hk hki ?_ hno
        by_cases hjk : j = k
        · subst hjk; exact hjun
        · rw [getD_set_ne true hjk] at hun; exact hun
      have hd' : ∀ d, D d = true → (listed.setIfInBounds j true).getD d true = false → waitsB md ops i n d = true ∨ FreshSt md ops L0 d := fun d hm hun => hd d hm (by
        by_cases hjk : j = d
        · subst hjk; exact hjun
        · rw [getD_set_ne true hjk] at hun; exact hun)
      refine wpOp_mono (fun a' w' h3 => ?_) h2
      obtain ⟨htm, hy', hg, hf, hq⟩ := h3
      have hf' := hf.back hoj hap
      have hS' : Grew w0 w' := by
        cases hDj : D j with
        | false => exact hS.trans (hg hDj)
        | true =>
          rcases hd j hDj hjun with hw | ⟨od, t, x, y, jA, oA, tA, e1, e2, e3, e4, e5, e6, e, he, hb, heq⟩
          · exact absurd hj (waits_not_ready hc hw hiun)
          · obtain rfl : oj = od := Option.some.inj (hoj.symm.trans e1)
            have hl : listed.getD jA false = true := by rw [← heq]; exact hall e he hb
            rcases (hf' _ hoj).1 t x y e2 with h4 | ⟨p, h4, h5, h6⟩
            · exact hS.trans h4
            · have h7 := hfr jA oA tA x e3 e4 e5 e6 hl p h4
              exact ⟨Nat.le_trans hS.1 h5, fun k hk => (h6 k (Nat.lt_of_lt_of_le hk hS.1) (by omega)).trans (hS.2 k hk)⟩
      refine ⟨hg, hf', ih (listed.setIfInBounds j true) a' w' hfree' (hc.set hj) hd' ?_ (ready_mono hr (Ne.symm hji)) hy' hS' ?_⟩
      · intro jA oA tA x e3 e4 e5 e6 hl p hp
        by_cases hjA : j = jA
        · subst hjA
          obtain rfl : oj = oA := Option.some.inj (hoj.symm.trans e3)
          exact Nat.le_trans hS.1 ((hf' _ hoj).2 tA x e4 e5 p hp)
        · rw [htm x (hAD jA oA tA x j oj e3 e4 e5 hoj hjA)] at hp
          rw [getD_set_ne false hjA] at hl
          exact hfr jA oA tA x e3 e4 e5 e6 hl p hp
      · rw [Array.setIfInBounds_comm _ _ hji]
        exact hq
end
end Go.Proofs.Ytpfjneaoankllaa.Ev

/-! Operations that yield a value and do nothing else. -/
namespace Go.Proofs.Ytpfjneaoankllaa.Ev
open Go.RowKit
section
variable {cx : Cx} {ι : Lay} {st : State} {ts : Array Value} {w : World}
variable {P : Program} {E : Env} {o : Oper} {a : Act} {R : Type} {K : State → Option R} {r : R} {next : Act → World → Prop} {Q : Exit → Act → World → Prop}
theorem op_move_y {x : Operand} (ho : o.op = .move x ∨ o.op = .assign x) (hs : Sim cx ι st a.tmps w) (hd : a.defers = []) (hN : Nx cx K r next)
    (h : (match impV E.T o.type st (st.ev x) with | (v, st') => K (st'.put o.dst v)) = some r) : Yl P o a next w := by
  refine ⟨a.eval x, fun w' => by rcases ho with ho | ho <;> simp [execOp, ho], ?_⟩
  cases hi : impV E.T o.type st (st.ev x) with
  | mk v st' =>
    rw [hi] at h
    obtain ⟨ι', h1, h2, _⟩ := impV_rel hs (hs.ev x) hi
    exact hN.put h1 hd h2 h
theorem op_pick_y {c x y : Operand} (ho : o.op = .pick c x y) (hs : Sim cx ι st a.tmps w) (hd : a.defers = []) (hN : Nx cx K r next)
    {q : Bool} (hq : st.ev c = .v (.one (.bool q))) (h : br q (K (st.put o.dst (st.ev x))) (K (st.put o.dst (st.ev y))) = some r) : Yl P o a next w := by
  have hc := hs.ev c
  rw [hq] at hc
  have hc : a.eval c = .bool q := hc
  refine ⟨if q then a.eval x else a.eval y, fun w' => by simp [execOp, ho, hc, asBool], ?_⟩
  rcases br_some h with ⟨rfl, h⟩ | ⟨rfl, h⟩
  · exact hN.put hs hd (hs.ev x) h
  · exact hN.put hs hd (hs.ev y) h
theorem op_pure (hT : TOk P E) (hp0 : isPure o = true) (hs : Sim cx ι st a.tmps w) (hd : a.defers = []) (hN : Nx cx K r next) (h : opE E o st K = some r) : Yl P o a next w := by
  unfold opE at h
  dsimp only at h
  split at h
  · rename_i x ho
    exact op_move_y (E := E) (.inl ho) hs hd hN h
  · rename_i x ho
    exact op_move_y (E := E) (.inr ho) hs hd hN h
  · rename_i c x y ho
    split at h
    · rename_i q hq
      exact op_pick_y ho hs hd hN hq h
    · cases h
  · rename_i t ho
    exact absurd hp0 (by simp [isPure, ho])
  · rename_i t x ho
    exact absurd hp0 (by simp [isPure, ho])
  · rename_i t ps ho
    split at h
    · rename_i ti hti
      split at h
      · rename_i e1 n1 ha
        exact (op_buildA hT ho hs hd hN hti ha h)
      rename_i hna
      split at h
      · rename_i pl hagg hp
        split at h
        · rename_i cs hf
          exact (op_build hT ho hs hd hN hti hna hagg hp hf h)
        · cases h
      · cases h
    · cases h
  · rename_i t x ix ho
    split at h
    · rename_i k0 n0 hix
      exact (op_indexA hT ho hs hd hN hix h)
    · cases h
  · rename_i t n ps ho
    exact absurd hp0 (by simp [isPure, ho])
  · rename_i t x ho
    exact absurd hp0 (by simp [isPure, ho])
  · rename_i t x y ho
    exact absurd hp0 (by simp [isPure, ho])
  · rename_i x ho
    split at h
    · rename_i rr i j hx
      split at h
      · rename_i g hg
        exact (op_nil ho hs hd hN hx (.inl ⟨rr, i, j, rfl⟩) (fun _ _ _ e => by cases e; exact ⟨g, hg⟩) h)
      · cases h
    · rename_i f hx
      exact (op_nil ho hs hd hN hx (.inr ⟨f, rfl⟩) (fun _ _ _ e => by cases e) h)
    · cases h
  · rename_i op t x y yt ho
    split at h
    · rename_i c1 c2 h1 h2
      split at h
      · rename_i q hq
        exact (op_nilq hT ho hs hd hN h1 h2 hq h)
      · exact (op_bin hT ho hs hd hN h1 h2 h)
    · rename_i cs ds h1 h2
      split at h
      · rename_i q hq
        exact (op_eqA hT ho hs hd hN h1 h2 hq h)
      · cases h
    · cases h
  · rename_i op t x ho
    split at h
    · rename_i c hx
      exact (op_un ho hs hd hN hx h)
    · cases h
  · rename_i s t x ho
    exact absurd hp0 (by simp [isPure, ho])
  · rename_i t l c ho
    exact absurd hp0 (by simp [isPure, ho])
  · rename_i t x hi ho
    split at h
    · rename_i rr s n hx hix
      split at h
      · rename_i g o' m hg
        split at h
        · rename_i hsl
          exact (op_slice_h hT ho hs hd hN hx hix hg hsl h)
        · cases h
      · rename_i s1 _ s2 g hg hns
        split at h
        · rename_i hsl
          refine (op_slice_h hT ho hs hd hN hx hix hg hsl ?_)
          cases s1 with
          | all => exact h
          | pre n => exact h
          | sub o' m => exact absurd rfl (hns o' m)
        · cases h
      · cases h
    · rename_i rr n hx hix
      exact (op_sliceA hT ho hs hd hN hx hix h)
    · cases h
  · rename_i t x lo ho
    split at h
    · rename_i rr s n hx hlo
      split at h
      · rename_i g hg
        split at h
        · rename_i hsl
          rcases br_some h with ⟨hok, h⟩ | ⟨_, h⟩
          · obtain ⟨h1, h2⟩ := okSl_spec hok
            rw [ivlen_eq] at h2
            refine (op_slice_lh (m := ((vlen g.l s : Nat) : Int)) hT ho hs hd hN hx hlo (.inr ⟨rfl, rfl⟩) hg hsl ⟨h1, h2, Int.le_refl _⟩ ?_)
            simpa [nat] using h
          · cases h
        · cases h
      · cases h
    · cases h
  · rename_i t x lo hi ho
    split at h
    · rename_i rr s n m hx hlo hhi
      split at h
      · rename_i g hg hsl
        rw [hg] at hsl
        rcases br_some h with ⟨hok, h⟩ | ⟨_, h⟩
        · have hok : 0 ≤ n ∧ n ≤ m ∧ m ≤ ivlen g.l s := by simpa [okLHM] using hok
          rw [ivlen_eq] at hok
          exact (op_slice_lh hT ho hs hd hN hx hlo (.inl ⟨hi, rfl, hhi⟩) hg hsl hok h)
        · cases h
      · cases h
    · rename_i b n m hx hlo hhi
      split at h
      · rename_i hS
        exact (op_slice_str hT ho hs hd hN hx hlo hhi hS h)
      · cases h
    · cases h
  · rename_i t x i ho
    split at h
    · rename_i rr ai j ti hx hti
      split at h
      · rename_i off ft hf
        split at h
        · rename_i fi hfi
          split at h
          · rename_i g hpos hg
            exact (op_fieldAddr hT ho hs hd hN hx hti hf hfi hpos ⟨_, hg⟩ h)
          · cases h
        · cases h
      · cases h
    · cases h
  · rename_i t x i ho
    split at h
    · rename_i cs ti hx hti
      split at h
      · rename_i off ft hf
        split at h
        · rename_i fi hfi
          exact (op_field hT ho hs hd hN hx hti hf hfi h)
        · cases h
      · cases h
    · cases h
  · rename_i t x ix ho
    split at h
    · rename_i rr s k n hx hix
      split at h
      · rename_i g hg
        split at h
        · rename_i hsl
          exact (op_indexAddr hT ho hs hd hN hx hix hg hsl h)
        · cases h
      · cases h
    · cases h
  · rename_i x i ho
    split at h
    · rename_i cs hx
      split at h
      · rename_i c hc
        exact (op_extract (T := E.T) ho hs hd hN hx hc h)
      · rename_i c hc hne
        refine (op_extract (T := E.T) ho hs hd hN hx hne ?_)
        cases c with
        | one c => exact absurd rfl (hc c)
        | agg cs => exact h
      · cases h
    · cases h
  · rename_i c ho
    split at h
    · rename_i x hc
      exact absurd hp0 (by obtain ⟨c1, _, _⟩ := c; have hc : c1 = _ := hc; subst hc; simp [isPure, ho])
    · rename_i hc
      split at h
      · rename_i x t ha hta
        split at h
        · rename_i n hn
          exact (op_len hT ho hc ha hta hs hd hN hn h)
        · cases h
      · cases h
    · rename_i hc
      exact absurd hp0 (by obtain ⟨c1, _, _⟩ := c; have hc : c1 = _ := hc; subst hc; simp [isPure, ho])
    · rename_i hc
      split at h
      · rename_i k n k' m hev
        split at h
        · rename_i hk
          subst hk
          obtain ⟨x, y, ha, hx, hy⟩ := evs_two hev
          exact (op_max ho hc ha hs hd hN hx hy h)
        · cases h
      · cases h
    · rename_i hc
      split at h
      · rename_i k n k' m hev
        split at h
        · rename_i hk
          subst hk
          obtain ⟨x, y, ha, hx, hy⟩ := evs_two hev
          exact (op_min ho hc ha hs hd hN hx hy h)
        · cases h
      · cases h
    · cases h
  · cases h
/-- Operations that read the memory and leave it. -/
theorem op_reads (hT : TOk P E) (hp0 : isLoad o = true) (hs : Sim cx ι st a.tmps w) (hd : a.defers = []) (hN : Nx cx K r next) (h : opE E o st K = some r) :
    ∃ u, (∀ w' : World, (∀ k, k < w.heap.size → w'.heap[k]? = w.heap[k]?) → (execOp a.eval o).run P w' = .ok (.value u) w') ∧ next (a.put o.dst u) w := by
  unfold isLoad at hp0
  split at hp0
  · rename_i t x ho
    have hk' : loadE E.T t st (st.ev x) (fun v st'' => K (st''.put o.dst v)) = some r := by
      simp only [opE, ho] at h
      exact h
    exact op_load hT ho hs hd hN hk'
  · rename_i s t x ho
    unfold opE at h
    rw [ho] at h
    dsimp only at h
    split at h
    · rename_i k fl k' n si ht hx hsi
      obtain ⟨u, h1, h2⟩ := op_convert hT ho hs hd hN hx ht hsi h
      exact ⟨u, fun w' _ => h1 w', h2⟩
    · rename_i fl rr sl te fl' ht hx hsi
      split at h
      · rename_i g hg hk
        split at h
        · rename_i b hb
          exact op_bytes hT ho hs hd hN hx ht hsi hg hk hb h
        · cases h
      · cases h
    · cases h
  · cases hp0
end
end Go.Proofs.Ytpfjneaoankllaa.Ev

namespace Go.Proofs.Ytpfjneaoankllaa.Ev
open Go.RowKit
section
variable {cx : Cx} {ι : Lay} {st : State} {ts : Array Value} {w : World}
variable {P : Program} {E : Env} {o : Oper} {a : Act} {R : Type} {r : R} {next : Act → World → Prop} {Q : Exit → Act → World → Prop}
/-- A temporary's datum, said more sharply. -/
theorem Sim.say (hs : Sim cx ι st ts w) {d : Tmp} {v v' : Val} (hv : nth st.ts d = some v) (h : ∀ u, VR (CRs cx ι st w) v u → VR (CRs cx ι st w) v' u) : Sim cx ι (st.put (some d) v') ts w := by
  refine ⟨hs.keep, hs.regs, hs.apart, ?_, fun i x hi => ?_, hs.hid⟩
  · simp [State.put, put_eq, hs.size]
  · simp only [State.put, put_eq] at hi
    rw [List.getElem?_set] at hi
    by_cases hd : d = i
    · subst hd
      rw [if_pos rfl] at hi
      split at hi
      · obtain rfl := Option.some.inj hi
        rw [nth_eq] at hv
        obtain ⟨u, h1, h2⟩ := hs.tmps d v hv
        exact ⟨u, h1, h u h2⟩
      · cases hi
    · rw [if_neg hd] at hi
      exact hs.tmps i x hi
theorem Sim.bool (hs : Sim cx ι st ts w) {d : Tmp} {q : Bool} (hv : nth st.ts d = some (.v (.one (.bool q)))) : Sim cx ι (st.put (some d) (.v (.one (.bool q)))) ts w := hs.say hv fun _ h => h
theorem yielded_of (hs : Sim cx ι st ts w) {ops : Array Oper} {j d : Nat} {oj : Oper} {v : Val} (hj : nth ops.toList j = some oj) (hd : oj.dst = some d) (hv : nth st.ts d = some v) :
    (∀ q, v = .v (.one (.bool q)) → yielded ops ts j = some q) ∧ (v = .un → yielded ops ts j = none) := by
  rw [nth_eq] at hj hv
  obtain ⟨u, h1, h2⟩ := hs.tmps d v hv
  have h3 : ((ops[j]?).bind (·.dst)).bind (ts[·]?) = some u := by
    have : ops[j]? = some oj := by simpa using hj
    rw [this, Option.bind_some, hd, Option.bind_some, h1]
  refine ⟨fun q hq => ?_, fun hq => ?_⟩
  · subst hq
    have h2 : u = .bool q := h2
    subst h2
    simp [yielded, h3]
  · subst hq
    have h2 : u = undef := h2
    subst h2
    simp [yielded, h3, undef]
/-- One operation, under its guard, as the machine takes it. -/
def StepOk (P : Program) (ops : Array Oper) (o : Oper) (a : Act) (w : World) (next : Act → World → Prop) (Q : Exit → Act → World → Prop) : Prop :=
  if Region.wanted o (yielded ops a.tmps) = true then o.wp P a w next Q else next (a.put o.dst undef) w
theorem StepOk.mono {ops : Array Oper} {next' : Act → World → Prop} (hn : ∀ a w, next a w → next' a w) (h : StepOk P ops o a w next Q) : StepOk P ops o a w next' Q := by
  unfold StepOk at *
  split
  · rename_i hw
    rw [if_pos hw] at h
    exact Oper.wp_mono hn h
  · rename_i hw
    rw [if_neg hw] at h
    exact hn _ _ h
theorem guard_gen {ops : Array Oper} {K : State → Option R} (hs : Sim cx ι st a.tmps w) (hd : a.defers = []) (hop : ∀ {st' : State}, Sim cx ι st' a.tmps w → opE E o st' K = some r → o.wp P a w next Q) (hsk : ∀ {st' : State}, Sim cx ι st' a.tmps w → K (st'.put o.dst .un) = some r → next (a.put o.dst undef) w) (h : guardE E ops.toList o st K = some r) : StepOk P ops o a w next Q := by
  unfold guardE at h
  split at h
  · rename_i hg
    unfold StepOk
    rw [if_pos (wanted_none hg _)]
    exact hop hs h
  · rename_i j want hg
    split at h
    · rename_i oj hj
      split at h
      · rename_i d hdst
        have skip : ∀ {st' : State}, Sim cx ι st' a.tmps w → Region.wanted o (yielded ops a.tmps) = false → K (st'.put o.dst .un) = some r → StepOk P ops o a w next Q := fun hs' hw hk => by
          unfold StepOk
          rw [if_neg (by rw [hw]; simp)]
          exact hsk hs' hk
        have run : ∀ {st' : State}, Sim cx ι st' a.tmps w → Region.wanted o (yielded ops a.tmps) = true → opE E o st' K = some r → StepOk P ops o a w next Q := fun hs' hw hk => by
          unfold StepOk
          rw [if_pos hw]
          exact hop hs' hk
        split at h
        · rename_i hv
          have hy := (yielded_of hs hj hdst hv).2 rfl
          exact skip hs (by simp [Region.wanted, hg, hy]) h
        · rename_i q hv
          have hy := (yielded_of hs hj hdst hv).1 q rfl
          have hs' := hs.bool hv
          rcases br_some h with ⟨rfl, h⟩ | ⟨rfl, h⟩
          · cases want
            · exact skip hs' (by simp [Region.wanted, hg, hy]) h
            · exact run hs' (by simp [Region.wanted, hg, hy]) h
          · cases want
            · exact run hs' (by simp [Region.wanted, hg, hy]) h
            · exact skip hs' (by simp [Region.wanted, hg, hy]) h
        · cases h
      · cases h
    · cases h
theorem guard_sound (hT : TOk P E) (hC : CallOk cx P E) {ops : Array Oper} {K : State → Option R} (hs : Sim cx ι st a.tmps w) (hd : a.defers = []) (hN : Nx cx K r next) (h : guardE E ops.toList o st K = some r) : StepOk P ops o a w next Q :=
  guard_gen hs hd (fun hs' h => op_sound hT hC hs' hd hN h) (fun hs' h => hN.put hs' hd (v := .un) rfl h) h
theorem guard_mild (hT : TOk P E) (hC : CallOk cx P E) (hm : mildOp (mildE E) o = true) {ops : Array Oper} {K : State → Option R} (hs : Sim cx ι st a.tmps w) (hd : a.defers = []) (hN : Nx cx K r next) (h : guardE E ops.toList o st K = some r) : StepOk P ops o a w (fun a' w' => Grew w w' ∧ next a' w') Q :=
  guard_gen hs hd (fun hs' h => op_mild hT hC hm hs' hd hN h) (fun hs' h => ⟨Grew.refl _, hN.put hs' hd (v := .un) rfl h⟩) h
theorem ops_sound (hT : TOk P E) (hC : CallOk cx P E) {ops : Array Oper} {K : State → Option R} (hK : Nx cx K r (Q .normal)) : ∀ (l : List Nat) {st : State} {ι : Lay} {a : Act} {w : World}, Sim cx ι st a.tmps w → a.defers = [] → opsE E ops.toList l st K = some r → wpOps P ops Q l a w
  | [], st, ι, a, w, hs, hd, h => hK st ι a w hs hd h
  | i :: l, st, ι, a, w, hs, hd, h => by
    simp only [opsE] at h
    split at h
    · rename_i o ho
      have ho' : ops[i]? = some o := by rw [nth_eq] at ho; simpa using ho
      have hst := guard_sound (Q := Q) (next := wpOps P ops Q l) hT hC hs hd (fun st' ι' a' w' hs' hd' hk => ops_sound hT hC hK l hs' hd' hk) h
      unfold StepOk at hst
      simp only [wpOps, ho']
      split
      · rename_i hw
        rw [if_pos hw] at hst
        exact .inl hst
      · rename_i hw
        rw [if_neg hw] at hst
        exact hst
    · cases h
/-- One operation that yields a value, under its guard. -/
theorem guard_val (hT : TOk P E) {ops : Array Oper} {K : State → Option R} (hs : Sim cx ι st a.tmps w) (hd : a.defers = []) (hN : Nx cx K r next)
    {S : World → Prop} (hv : ∀ {st' : State} {ι' : Lay}, Sim cx ι' st' a.tmps w → opE E o st' K = some r → ∃ u, (∀ w', S w' → (execOp a.eval o).run P w' = .ok (.value u) w') ∧ next (a.put o.dst u) w)
    (h : guardE E ops.toList o st K = some r) : ∃ u, YieldsIf P ops S o u a ∧ next (a.put o.dst u) w := by
  unfold guardE at h
  split at h
  · rename_i hg
    obtain ⟨u, h1, h2⟩ := hv hs h
    exact ⟨u, .inl ⟨wanted_none hg _, h1⟩, h2⟩
  · rename_i j want hg
    split at h
    · rename_i oj hj
      split at h
      · rename_i d hdst
        have skip : ∀ {st' : State}, Sim cx ι st' a.tmps w → Region.wanted o (yielded ops a.tmps) = false → K (st'.put o.dst .un) = some r → ∃ u, YieldsIf P ops S o u a ∧ next (a.put o.dst u) w := fun hs' hw hk =>
          ⟨undef, .inr ⟨hw, rfl⟩, hN.put hs' hd (v := .un) rfl hk⟩
        have run : ∀ {st' : State}, Sim cx ι st' a.tmps w → Region.wanted o (yielded ops a.tmps) = true → opE E o st' K = some r → ∃ u, YieldsIf P ops S o u a ∧ next (a.put o.dst u) w := fun hs' hw hk => by
          obtain ⟨u, h1, h2⟩ := hv hs' hk
          exact ⟨u, .inl ⟨hw, h1⟩, h2⟩
        split at h
        · rename_i hv'
          have hy := (yielded_of hs hj hdst hv').2 rfl
          exact skip hs (by simp [Region.wanted, hg, hy]) h
        · rename_i q hv'
          have hy := (yielded_of hs hj hdst hv').1 q rfl
          have hs' := hs.bool hv'
          rcases br_some h with ⟨rfl, h⟩ | ⟨rfl, h⟩
          · cases want
            · exact skip hs' (by simp [Region.wanted, hg, hy]) h
            · exact run hs' (by simp [Region.wanted, hg, hy]) h
          · cases want
            · exact run hs' (by simp [Region.wanted, hg, hy]) h
            · exact skip hs' (by simp [Region.wanted, hg, hy]) h
        · cases h
      · cases h
    · cases h
theorem freshB_spec {md : Region.Mode} {ops : Array Oper} {L : Array Bool} {d : Nat} (h : freshB md ops L d = true) : FreshSt md ops L d := by
  unfold freshB at h
  split at h
  · rename_i od hod
    split at h
    · rename_i t x y hop
      obtain ⟨j, hj, h1⟩ := List.any_eq_true.1 h
      split at h1
      · rename_i oj hoj
        simp only [Bool.and_eq_true, beq_iff_eq, Bool.not_eq_true'] at h1
        obtain ⟨h2, h3, h4, h5⟩ := h1
        split at h2
        · rename_i tA hal
          obtain ⟨e, he, h6⟩ := Array.any_eq_true'.1 h5
          simp only [Bool.and_eq_true, beq_iff_eq] at h6
          exact ⟨od, t, x, y, j, oj, tA, hod, hop, hoj, hal, h3, h4, e, he, h6.1, h6.2⟩
        · cases h2
      · cases h1
    · cases h
  · cases h
theorem allocDB_spec {ops : Array Oper} (h : allocDB ops = true) : AllocD ops := by
  intro jA oA tA x j oj h1 h2 h3 h4 h5 h6
  have hA : jA < ops.size := (Array.getElem?_eq_some_iff.1 h1).1
  have hJ : j < ops.size := (Array.getElem?_eq_some_iff.1 h4).1
  have h7 := List.all_eq_true.1 h jA (List.mem_range.2 hA)
  rw [h1] at h7
  simp only [h2, h3] at h7
  have h8 := List.all_eq_true.1 h7 j (List.mem_range.2 hJ)
  simp [h4, h5, h6] at h8
theorem fr_none {ops : Array Oper} {i : Nat} {a a' : Act} {w w' : World} (ho : ops[i]? = some o) (h1 : ∀ t x y, o.op ≠ .store t x y) (h2 : ∀ t, o.op ≠ .alloc t) : Fr ops i a w a' w' := fun o' ho' => by
  obtain rfl : o = o' := Option.some.inj (ho.symm.trans ho')
  exact ⟨fun t x y e => absurd e (h1 t _ y), fun t x e => absurd e (h2 t)⟩
/-- One operation of a drawn region. -/
theorem drawn_one (hT : TOk P E) (hC : CallOk cx P E) {ops : Array Oper} {i fuel : Nat} {l : Array Bool} {K : State → Option R} {st : State} (ho' : ops[i]? = some o) (hp : isPure o = false) (hl : isLoad o = false) (hs : Sim cx ι st a.tmps w) (hd : a.defers = [])
    (hrec : Nx cx K r (wpQ P .any ops Q (turns (mildE E) ops) fuel (l.setIfInBounds i true))) (h : guardE E ops.toList o st K = some r) :
    wpOp P ops Q i (fun a' w' => (turns (mildE E) ops i = false → Grew w w') ∧ Fr ops i a w a' w' ∧ wpQ P .any ops Q (turns (mildE E) ops) fuel (l.setIfInBounds i true) a' w') a w := by
  have hst : StepOk P ops o a w (fun a' w' => (turns (mildE E) ops i = false → Grew w w') ∧ Fr ops i a w a' w' ∧ wpQ P .any ops Q (turns (mildE E) ops) fuel (l.setIfInBounds i true) a' w') Q := by
    by_cases hal : ∃ t, o.op = .alloc t
    · obtain ⟨t, hal⟩ := hal
      have hfr : ∀ a' w', (∀ x, o.dst = some x → ∀ p : Addr, a'.tmps[x]? = some (.pointer (some p)) → w.heap.size ≤ p.block) → Fr ops i a w a' w' := fun a' w' h o2 ho2 => by
        obtain rfl : o = o2 := Option.some.inj (ho'.symm.trans ho2)
        exact ⟨fun t x y e => (by rw [hal] at e; cases e), fun t x _ hx p hp => h x hx p hp⟩
      refine guard_gen hs hd (fun hs' h => Oper.wp_mono (fun a' w' h => ⟨fun _ => h.1.1, hfr a' w' h.1.2, h.2⟩) (op_alloc_g hT hal hs' hd hrec h)) (fun hs' h => ⟨fun _ => Grew.refl _, hfr _ _ (fun x hx p hp => ?_), hrec.put hs' hd (v := .un) rfl h⟩) h
      rw [hx] at hp
      have hp : (a.tmps.setIfInBounds x undef)[x]? = some (.pointer (some p)) := hp
      rw [Array.getElem?_setIfInBounds, if_pos rfl] at hp
      split at hp
      · injection hp with hp
        cases hp
      · cases hp
    · by_cases hstore : ∃ t x y, o.op = .store t x y
      · obtain ⟨t, x, y, hop⟩ := hstore
        have hD : turns (mildE E) ops i = true := by simp [turns, ho', hp, hl, mildOp, hop]
        have hfr : ∀ a' w', (Grew w w' ∨ ∃ p : Addr, a.eval x = .pointer (some p) ∧ w.heap.size ≤ w'.heap.size ∧ ∀ k, k < w.heap.size → k ≠ p.block → w'.heap[k]? = w.heap[k]?) → Fr ops i a w a' w' := fun a' w' h o2 ho2 => by
          obtain rfl : o = o2 := Option.some.inj (ho'.symm.trans ho2)
          refine ⟨fun t' x' y' e => ?_, fun t x e => (by rw [hop] at e; cases e)⟩
          rw [hop] at e
          injection e with _ e2 _
          subst e2
          rcases h with h | ⟨p, h1, h2⟩
          · exact .inl h
          · refine .inr ⟨p, ?_, h2⟩
            have h1 : a.tmps.getD x' undef = .pointer (some p) := h1
            rw [Array.getD_eq_getD_getElem?] at h1
            cases hq : a.tmps[x']? with
            | none => rw [hq] at h1; cases h1
            | some v => rw [hq] at h1; exact congrArg some h1
        exact guard_gen hs hd (fun hs' h => Oper.wp_mono (fun a' w' h => ⟨fun e => (by rw [hD] at e; cases e), hfr a' w' (.inr h.1), h.2⟩) (op_store_x hT hop hs' hd hrec h)) (fun hs' h => ⟨fun e => (by rw [hD] at e; cases e), hfr _ _ (.inl (Grew.refl _)), hrec.put hs' hd (v := .un) rfl h⟩) h
      · have hfr : ∀ a' w', Fr ops i a w a' w' := fun a' w' => fr_none ho' (fun t x y e => hstore ⟨t, x, y, e⟩) (fun t e => hal ⟨t, e⟩)
        cases hmo : mildOp (mildE E) o with
        | true => exact StepOk.mono (fun _ _ h => ⟨fun _ => h.1, hfr _ _, h.2⟩) (guard_mild (Q := Q) hT hC hmo hs hd hrec h)
        | false => exact StepOk.mono (fun _ _ h => ⟨fun hh => by simp [turns, ho', hp, hl, hmo] at hh, hfr _ _, h⟩) (guard_sound (Q := Q) hT hC hs hd hrec h)
  unfold StepOk at hst
  unfold wpOp
  rw [ho']
  dsimp only
  split
  · rename_i hw
    rw [if_pos hw] at hst
    exact .inl hst
  · rename_i hw
    rw [if_neg hw] at hst
    exact hst
theorem agree_both {R : Type} {x y : Option R} {r : R} (h : agree x y = some r) : x = some r ∧ y = some r := by
  unfold agree at h
  split at h
  · rename_i e; exact ⟨h, e ▸ h⟩
  · cases h
theorem drawn_sound (hT : TOk P E) (hC : CallOk cx P E) {ops : Array Oper} (hAD : AllocD ops) (hsel : Region.noSelect ops = true) (hQ : ∀ c a w, ¬ Q (.panic c) a w) {K : State → Option R} (hK : Nx cx K r (Q .normal)) : ∀ (s : Ord) {fuel : Nat} {l : Array Bool} {st : State} {ι : Lay} {a : Act} {w : World} {tail : Bool},
    Sim cx ι st a.tmps w → a.defers = [] → s.within fuel = true → schedGo (mildE E) ops s tail l = true → treeE E ops.toList s st K = some r →
    (tail = false → wpQ P .any ops Q (turns (mildE E) ops) fuel l a w) ∧
    (tail = true → ∃ m, fuel = m + 1 ∧ ∀ j ∈ s.heads, wpOp P ops Q j (fun a' w' => (turns (mildE E) ops j = false → Grew w w') ∧ Fr ops j a w a' w' ∧ wpQ P .any ops Q (turns (mildE E) ops) m (l.setIfInBounds j true) a' w') a w)
  | .done, fuel, l, st, ι, a, w, tail, hs, hd, hf, hg, h => by
    simp only [schedGo, Bool.and_eq_true, Bool.not_eq_true'] at hg
    refine ⟨fun _ => ?_, fun e => by rw [hg.1] at e; cases e⟩
    have hready : Region.ready .any ops l = [] := by simpa using hg.2
    have hq : Q .normal a w := hK st ι a w hs hd h
    cases fuel with
    | zero => exact ⟨hready, hq⟩
    | succ n => exact ⟨fun _ => hq, by rw [hready]; simp⟩
  | .step i s, 0, l, st, ι, a, w, tail, hs, hd, hf, hg, h => by simp [Ord.within] at hf
  | .step i s, fuel + 1, l, st, ι, a, w, tail, hs, hd, hf, hg, h => by
    simp only [schedGo, Bool.and_eq_true, Bool.or_eq_true] at hg
    obtain ⟨hg1, hg2⟩ := hg
    simp only [treeE] at h
    split at h
    · rename_i o ho
      have ho' : ops[i]? = some o := by rw [nth_eq] at ho; simpa using ho
      have hrec : Nx cx (fun st' => treeE E ops.toList s st' K) r (wpQ P .any ops Q (turns (mildE E) ops) fuel (l.setIfInBounds i true)) := fun st' ι' a' w' hs' hd' hk =>
        (drawn_sound hT hC hAD hsel hQ hK s hs' hd' (by simpa [Ord.within] using hf) hg2 hk).1 rfl
      have hone : isPure o = false → isLoad o = false → wpOp P ops Q i (fun a' w' => (turns (mildE E) ops i = false → Grew w w') ∧ Fr ops i a w a' w' ∧ wpQ P .any ops Q (turns (mildE E) ops) fuel (l.setIfInBounds i true) a' w') a w := fun hp hl => drawn_one hT hC ho' hp hl hs hd hrec h
      have hhard : hardB ops i = true → isPure o = false ∧ isLoad o = false := fun hh => by simpa [hardB, ho'] using hh
      refine ⟨fun ht => ?_, fun ht => ⟨fuel, rfl, fun j hj => by
        have hj : j ∈ [i] := hj
        obtain rfl : j = i := by simpa using hj
        have hg1 : hardB ops j = true := by
          rcases hg1 with e | e
          · exact e.2
          · rw [ht] at e; simp at e
        exact hone (hhard hg1).1 (hhard hg1).2⟩⟩
      have hg1 : stepB (mildE E) ops l i = true := by
        rcases hg1 with e | e
        · rw [ht] at e; simp at e
        · exact e.2
      unfold stepB at hg1
      rw [ho'] at hg1
      dsimp only at hg1
      split at hg1
      · have hpure : isPure o = true := by assumption
        simp only [Bool.and_eq_true] at hg1
        obtain ⟨hfree, hready⟩ := hg1
        obtain ⟨u, hy, hn⟩ := guard_val (S := fun _ => True) hT hs hd hrec (fun hs' hk => by
          obtain ⟨u, h1, h2⟩ := op_pure hT hpure hs' hd hrec hk
          exact ⟨u, fun w' _ => h1 w', h2⟩) h
        exact wpQ_first ho' (Region.noSelect_spec hsel) hQ (fun _ _ => fr_none ho' (fun t x y e => by simp [isPure, e] at hpure) (fun t e => by simp [isPure, e] at hpure)) (fun _ _ _ _ => trivial) (.inl fun _ => trivial) 0 fuel l a w (Region.free_spec ho' hfree) (.inl fun _ => trivial) (by simpa using hready) hy trivial hn
      · rename_i hnp hload
        simp only [Bool.and_eq_true] at hg1
        obtain ⟨⟨⟨hfree, hready⟩, hshut⟩, hheld⟩ := hg1
        obtain ⟨u, hy, hn⟩ := guard_val (S := fun w' => Grew w w') hT hs hd hrec (fun {st'} {ι'} hs' hk => by
          obtain ⟨u, h1, h2⟩ := op_reads hT hload hs' hd hrec hk
          exact ⟨u, fun w' e => h1 _ e.2, h2⟩) h
        refine wpQ_first2 ho' (Region.noSelect_spec hsel) hQ (fun _ _ => fr_none ho' (fun t x y e => by simp [isLoad, e] at hload) (fun t e => by simp [isLoad, e] at hload)) (by simp [turns, ho', hload]) hAD ops.size w l fuel l a w (Region.free_spec ho' hfree) (shutB_spec hshut) (fun d hD hun => ?_) (fun jA oA tA x _ _ _ h1 h2 => ?_) (by simpa using hready) hy (Grew.refl _) hn
        · have hlt : d < ops.size := by
            unfold turns at hD
            split at hD
            · rename_i o2 ho2; exact (Array.getElem?_eq_some_iff.1 ho2).1
            · cases hD
          have := List.all_eq_true.1 hheld d (List.mem_range.2 hlt)
          simp only [hD, hun, Bool.not_true, Bool.false_or, Bool.or_eq_true] at this
          exact this.imp id freshB_spec
        · rcases Nat.lt_or_ge jA l.size with h' | h'
          · simp [h'] at h1 h2; rw [h1] at h2; cases h2
          · simp [Array.getElem?_eq_none h'] at h2
      · rename_i hnp hnl
        have hready : Region.ready .any ops l = [i] := by simpa using hg1
        refine ⟨fun h0 => (by rw [hready] at h0; cases h0), fun j hj => ?_⟩
        rw [hready] at hj
        obtain rfl : j = i := by simpa using hj
        exact hone (by simpa using hnp) (by simpa using hnl)
    · cases h
  | .fork i s t, 0, l, st, ι, a, w, tail, hs, hd, hf, hg, h => by simp [Ord.within] at hf
  | .fork i s t, fuel + 1, l, st, ι, a, w, tail, hs, hd, hf, hg, h => by
    simp only [schedGo, Bool.and_eq_true, Bool.or_eq_true] at hg
    obtain ⟨hg1, ⟨hh, hg2⟩, hg3⟩ := hg
    simp only [Ord.within, Bool.and_eq_true] at hf
    simp only [treeE] at h
    split at h
    · rename_i o ho
      have ho' : ops[i]? = some o := by rw [nth_eq] at ho; simpa using ho
      obtain ⟨h1, h2⟩ := agree_both h
      have hrec : Nx cx (fun st' => treeE E ops.toList s st' K) r (wpQ P .any ops Q (turns (mildE E) ops) fuel (l.setIfInBounds i true)) := fun st' ι' a' w' hs' hd' hk =>
        (drawn_sound hT hC hAD hsel hQ hK s hs' hd' hf.1 hg2 hk).1 rfl
      have hone : wpOp P ops Q i (fun a' w' => (turns (mildE E) ops i = false → Grew w w') ∧ Fr ops i a w a' w' ∧ wpQ P .any ops Q (turns (mildE E) ops) fuel (l.setIfInBounds i true) a' w') a w := drawn_one hT hC ho' (by simpa [hardB, ho'] using (show isPure o = false ∧ isLoad o = false by simpa [hardB, ho'] using hh).1) (by simpa [hardB, ho'] using (show isPure o = false ∧ isLoad o = false by simpa [hardB, ho'] using hh).2) hs hd hrec h1
      obtain ⟨m, hm, hall⟩ := (drawn_sound hT hC hAD hsel hQ hK t hs hd hf.2 hg3 h2).2 rfl
      obtain rfl : fuel = m := Nat.succ.inj hm
      have hev : ∀ j ∈ (Ord.fork i s t).heads, wpOp P ops Q j (fun a' w' => (turns (mildE E) ops j = false → Grew w w') ∧ Fr ops j a w a' w' ∧ wpQ P .any ops Q (turns (mildE E) ops) fuel (l.setIfInBounds j true) a' w') a w := fun j hj => by
        have hj : j ∈ i :: t.heads := hj
        rcases List.mem_cons.1 hj with rfl | hj
        · exact hone
        · exact hall j hj
      refine ⟨fun ht => ?_, fun _ => ⟨fuel, rfl, hev⟩⟩
      have hready : Region.ready .any ops l = i :: t.heads := by
        rcases hg1 with e | e
        · rw [ht] at e; cases e
        · simpa using e
      refine ⟨fun h0 => (by rw [hready] at h0; cases h0), fun j hj => ?_⟩
      rw [hready] at hj
      exact hev j hj
    · cases h
def exitOf : Ex → Exit
  | .normal => .normal | .exit id => .exit id | .ret => .ret
theorem same_eq {e e' : Ex} (h : Ex.same e e' = true) : e = e' := by
  cases e <;> cases e' <;> simp [Ex.same] at h
  · rfl
  · rw [h]
  · rfl
theorem disp_spec {R : Type} {K : Ex → State → Option R} {e : Ex} {st : State} {r : R} : ∀ (ys : List (Ex × Shape)), disp ys (mkK ys K) e st = some r → ∃ (sh : Shape) (y : dens sh.ty), sh.load st = some y ∧ K e (sh.mk' y) = some r
  | [], h => by simp [disp] at h
  | (e', sh) :: ys, h => by
    simp only [disp, mkK] at h
    split at h
    · rename_i hs
      split at h
      · rename_i y hy
        rw [hd_cons] at h
        have := same_eq hs
        subst this
        exact ⟨sh, y, hy, h⟩
      · cases h
    · rw [tl_cons] at h
      exact disp_spec ys h
/-- What follows a text. -/
def Kx {R : Type} (cx : Cx) (K : Ex → State → Option R) (r : R) (Q : Exit → Act → World → Prop) : Prop :=
  ∀ e st ι a w, Sim cx ι st a.tmps w → a.defers = [] → K e st = some r → Q (exitOf e) a w
theorem exec_sound {A : Ann} {n : Nat} (hT : TOk P E) (hm : P.follows .mixedOrders = true) (hC : CallOk cx P E) {R : Type} {r : R} : ∀ (c : Code) (_ : ∀ p ∈ partsOf A c, OkPart E A n p) {Q : Exit → Act → World → Prop} (_ : ∀ c a w, ¬ Q (.panic c) a w) {K : Ex → State → Option R} {st : State} {ι : Lay} {a : Act} {w : World},
    Sim cx ι st a.tmps w → a.defers = [] → Kx cx K r Q → execE E A n c st K = some r → c.wp P Q a w
  | .skip, _, Q, hQ, K, st, ι, a, w, hs, hd, hK, h => wp_skip (hK .normal st ι a w hs hd h)
  | .region id ops draw, _, Q, hQ, K, st, ι, a, w, hs, hd, hK, h => by
    simp only [execE] at h
    split at h
    · rw [upto_eq, count_eq, Array.length_toList] at h
      exact wp_region (ops_sound hT hC (fun st' ι' a' w' hs' hd' hk => hK .normal st' ι' a' w' hs' hd' hk) _ hs hd h)
    · split at h
      · rename_i s _
        split at h
        · rename_i hs1
          simp only [schedOk, Bool.and_eq_true] at hs1
          obtain ⟨h1, ⟨h0, h2⟩, h3⟩ := hs1
          refine wp_region_any hm (wpAny_of_wpQ (D := turns (mildE E) ops) _ _ _ _ ?_)
          have hs2 : Sim cx ι st a.tmps { w with drawn := w.drawn + 1 } := hs.grow ⟨rfl, rfl, rfl, Nat.le_refl _, fun _ _ _ => rfl⟩
          exact (drawn_sound hT hC (allocDB_spec h0) h1 hQ (fun st' ι' a' w' hs' hd' hk => hK .normal st' ι' a' w' hs' hd' hk) s hs2 hd h2 h3 h).1 rfl
        · cases h
      · cases h
  | .seq x y, hp, Q, hQ, K, st, ι, a, w, hs, hd, hK, h => by
    simp only [execE] at h
    have hpy : ∀ p ∈ partsOf A y, OkPart E A n p := fun p hm => hp p (by
      unfold partsOf
      split <;> rw [app_eq] <;> simp [hm])
    have hpx : ∀ p ∈ partsOf A x, OkPart E A n p := fun p hm => hp p (by
      unfold partsOf
      split <;> rw [app_eq] <;> simp [hm])
    have hK2 : Kx cx (fun e st' => match e with | .normal => execE E A n y st' K | e => K e st') r (Exit.then (y.wp P Q) Q) := by
      intro e st' ι' a' w' hs' hd' hk
      cases e with
      | normal => exact exec_sound hT hm hC y hpy hQ hs' hd' hK hk
      | exit id => exact hK _ st' ι' a' w' hs' hd' hk
      | ret => exact hK _ st' ι' a' w' hs' hd' hk
    split at h
    · rename_i s hsub
      unfold subE at h
      split at h
      · rename_i z hz
        have hok : OkSeq E A n s x := hp (false, s, x) (by unfold partsOf; rw [hsub]; simp)
        have h1 := (hok R n z (mkK s.ys _)).trans h
        obtain ⟨ι1, hs1⟩ := canon_less s.live st cx ι a.tmps w hs
        obtain ⟨ι2, hs2⟩ := load_less hz cx ι1 a.tmps w hs1
        refine wp_seq (exec_sound (Q := Exit.then (y.wp P Q) Q) hT hm hC x hpx (fun c a w hh => hQ c a w hh) hs2 hd (K := _) ?_ h1)
        intro e st' ι' a' w' hs' hd' hk
        cases e with
        | normal =>
          obtain ⟨ι3, hs3⟩ := canon_less s.out st' cx ι' a'.tmps w' hs'
          obtain ⟨sh, q, h3, h4⟩ := disp_spec _ hk
          obtain ⟨ι4, hs4⟩ := load_less h3 cx ι3 a'.tmps w' hs3
          exact hK2 .normal _ ι4 a' w' hs4 hd' h4
        | exit id =>
          obtain ⟨sh, q, h3, h4⟩ := disp_spec _ hk
          obtain ⟨ι4, hs4⟩ := load_less h3 cx ι' a'.tmps w' hs'
          exact hK2 _ _ ι4 a' w' hs4 hd' h4
        | ret =>
          obtain ⟨sh, q, h3, h4⟩ := disp_spec _ hk
          obtain ⟨ι4, hs4⟩ := load_less h3 cx ι' a'.tmps w' hs'
          exact hK2 _ _ ι4 a' w' hs4 hd' h4
      · cases h
    · exact wp_seq (exec_sound (Q := Exit.then (y.wp P Q) Q) hT hm hC x hpx (fun c a w hh => hQ c a w hh) hs hd hK2 h)
  | .cond c x y, hp, Q, hQ, K, st, ι, a, w, hs, hd, hK, h => by
    simp only [execE] at h
    have hpx : ∀ p ∈ partsOf A x, OkPart E A n p := fun p hm => hp p (by unfold partsOf; rw [app_eq]; simp [hm])
    have hpy : ∀ p ∈ partsOf A y, OkPart E A n p := fun p hm => hp p (by unfold partsOf; rw [app_eq]; simp [hm])
    split at h
    · rename_i t
      split at h
      · rename_i q hq
        have hv := hs.ev (.tmp t)
        have hev : st.ev (.tmp t) = .v (.one (.bool q)) := by simp only [State.ev, hq]
        rw [hev] at hv
        have hv : a.eval (.tmp t) = .bool q := hv
        rcases br_some h with ⟨rfl, h⟩ | ⟨rfl, h⟩
        · exact wp_cond_true hv (exec_sound hT hm hC x hpx hQ (hs.bool hq) hd hK h)
        · exact wp_cond_false hv (exec_sound hT hm hC y hpy hQ (hs.bool hq) hd hK h)
      · cases h
    · cases h
  | .block id c, hp, Q, hQ, K, st, ι, a, w, hs, hd, hK, h => by
    simp only [execE] at h
    refine wp_block (exec_sound (Q := Exit.inBlock id Q) hT hm hC c (fun p hm => hp p (by unfold partsOf; exact hm)) (fun c a w hh => hQ c a w hh) hs hd ?_ h)
    intro e st' ι' a' w' hs' hd' hk
    cases e with
    | normal =>
      obtain ⟨ι2, hs2⟩ := canonIf_less _ st' cx ι' a'.tmps w' hs'
      exact hK .normal _ ι2 a' w' hs2 hd' hk
    | exit id' =>
      show Exit.inBlock id Q (.exit id') a' w'
      simp only [Exit.inBlock]
      dsimp only at hk
      split at hk
      · rename_i hq
        rw [if_pos (Nat.eq_of_beq_eq_true hq)]
        exact hK .normal _ ι' a' w' hs' hd' hk
      · rename_i hq
        rw [if_neg (fun e => by subst e; simp at hq)]
        exact hK (.exit id') _ ι' a' w' hs' hd' hk
    | ret => exact hK .ret _ ι' a' w' hs' hd' hk
  | .loop c, hp, Q, hQ, K, st, ι, a, w, hs, hd, hK, h => by
    classical
    simp only [execE] at h
    split at h
    · rename_i s hsub
      unfold subE at h
      split at h
      · rename_i z hz
        have hok : OkLoop E A n s c := hp (true, s, c) (by unfold partsOf; rw [hsub]; simp)
        have hpc : ∀ p ∈ partsOf A c, OkPart E A n p := fun p hm => hp p (by unfold partsOf; rw [hsub]; simp [hm])
        obtain ⟨ι1, hs1⟩ := canon_less s.live st cx ι a.tmps w hs
        obtain ⟨ι2, hs2⟩ := load_less hz cx ι1 a.tmps w hs1
        let J : Nat → Act → World → Prop := fun k a w => ∃ x ι, Sim cx ι (s.sh.mk' x) a.tmps w ∧ a.defers = [] ∧ s.f R k x (mkK s.ys K) = some r
        let I : Act → World → Prop := fun a w => ∃ k, J k a w
        let μ : Act → World → Nat := fun a w => if h : I a w then Classical.choose (least h) else 0
        have hμ : ∀ a w (h : I a w), J (μ a w) a w ∧ ∀ k, J k a w → μ a w ≤ k := fun a w h => by
          have h1 := Classical.choose_spec (least h)
          have h2 : μ a w = Classical.choose (least h) := dif_pos h
          rw [h2]
          exact ⟨h1.1, fun k hk => Nat.le_of_not_lt fun hlt => h1.2 k hlt hk⟩
        refine wp_loop I μ ⟨n, z, ι2, hs2, hd, h⟩ ?_
        intro a1 w1 hI
        obtain ⟨x, ι3, hs3, hd3, hf⟩ := (hμ a1 w1 hI).1
        cases hk : μ a1 w1 with
        | zero =>
          rw [hk] at hf
          rw [← hok.1 R x _] at hf
          cases hf
        | succ k =>
          rw [hk] at hf
          have h1 := (hok.2 R k x (mkK s.ys K)).trans hf
          refine exec_sound (Q := Exit.then _ Q) hT hm hC c hpc (fun c a w hh => hQ c a w hh) hs3 hd3 (K := _) ?_ h1
          intro e st' ι' a' w' hs' hd' hk'
          cases e with
          | normal =>
            dsimp only at hk'
            split at hk'
            · rename_i x' hx'
              obtain ⟨ι4, hs4⟩ := canon_less s.live st' cx ι' a'.tmps w' hs'
              obtain ⟨ι5, hs5⟩ := load_less hx' cx ι4 a'.tmps w' hs4
              have hI' : I a' w' := ⟨k, x', ι5, hs5, hd', hk'⟩
              refine ⟨hI', ?_⟩
              exact Nat.lt_succ_of_le ((hμ a' w' hI').2 k ⟨x', ι5, hs5, hd', hk'⟩)
            · cases hk'
          | exit id =>
            obtain ⟨sh, q, h3, h4⟩ := disp_spec _ hk'
            obtain ⟨ι4, hs4⟩ := load_less h3 cx ι' a'.tmps w' hs'
            exact hK _ _ ι4 a' w' hs4 hd' h4
          | ret =>
            obtain ⟨sh, q, h3, h4⟩ := disp_spec _ hk'
            obtain ⟨ι4, hs4⟩ := load_less h3 cx ι' a'.tmps w' hs'
            exact hK _ _ ι4 a' w' hs4 hd' h4
      · cases h
    · cases h
  | .exit id, _, Q, hQ, K, st, ι, a, w, hs, hd, hK, h => by
    obtain ⟨ι2, hs2⟩ := canonIf_less _ st cx ι a.tmps w hs
    exact wp_exit (hK (.exit id) _ ι2 a w hs2 hd h)
  | .ret, _, Q, hQ, K, st, ι, a, w, hs, hd, hK, h => by
    obtain ⟨ι2, hs2⟩ := canonIf_less _ st cx ι a.tmps w hs
    exact wp_ret (hK .ret _ ι2 a w hs2 hd h)
  | .rangeFunc _ _ _ _, _, _, _, _, _, _, _, _, _, _, _, h => by simp [execE] at h
  | .scope _, _, _, _, _, _, _, _, _, _, _, _, h => by simp [execE] at h
  | .label _, _, _, _, _, _, _, _, _, _, _, _, h => by simp [execE] at h
  | .goto _, _, _, _, _, _, _, _, _, _, _, _, h => by simp [execE] at h
  | .refuse _, _, _, _, _, _, _, _, _, _, _, _, h => by simp [execE] at h
end
end Go.Proofs.Ytpfjneaoankllaa.Ev

/-! A function's contract, and that the reader's word bears it. -/
namespace Go.Proofs.Ytpfjneaoankllaa.Ev
open Go.RowKit
/-- Where a row lies that is lent, given or handed over: its first cell, its capacity. -/
abbrev Hand := Option Addr × Nat
def OwnR (w : World) (N : Nat → Prop) (t : TypeId) (e : Ty) (l : List e.den) (h : Hand) : Prop :=
  ∃ xs, RDs w N e l xs ∧ w.ownsRow 0 t e.size (.slice h.1 l.length h.2) l.length xs
/-- The arguments bear the data. -/
def ArgsR (w : World) (N : Nat → Prop) : (ps : List PT) → Args ps → List Value → List Hand → Prop
  | [], _, vs, hs => vs = [] ∧ hs = []
  | .rd e :: ps, x, vs, hs => ∃ v r, vs = v :: r ∧ RD w N e (hd x) [v] ∧ ArgsR w N ps (tl x) r hs
  | .ag e :: ps, x, vs, hs => ∃ us r, vs = .agg us :: r ∧ RD w N e (hd x) us.toList ∧ ArgsR w N ps (tl x) r hs
  | .ow t e _ false :: ps, x, vs, hs => ∃ (h : Hand) (r : List Value) (hr : List Hand), vs = .slice h.1 (hd x).length h.2 :: r ∧ hs = h :: hr ∧ OwnR w N t e (hd x) h ∧ ArgsR w N ps (tl x) r hr
  | .ow t e _ true :: ps, x, vs, hs => ∃ (h : Hand) (r : List Value) (hr : List Hand), vs = .slice h.1 (hd x).2 h.2 :: r ∧ hs = h :: hr ∧ (hd x).2 ≤ (hd x).1.length ∧ OwnR w N t e (hd x).1 h ∧ ArgsR w N ps (tl x) r hr
  | .op t e :: ps, x, vs, hs => ∃ (a : Addr) (c : Nat) (r : List Value) (hr : List Hand), vs = .pointer (some a) :: r ∧ hs = (some a, c) :: hr ∧ OwnR w N t e [hd x] (some a, c) ∧ ArgsR w N ps (tl x) r hr
  | .fn f :: ps, x, vs, hs => ∃ r, vs = .func (.func f) #[] #[] :: r ∧ ArgsR w N ps (tl x) r hs
  | .rp t e :: ps, x, vs, hs => ∃ (a : Addr) (c : Nat) (r : List Value), vs = .pointer (some a) :: r ∧ RD w N (.slice t e) [hd x] [.slice (some a) 1 c] ∧ ArgsR w N ps (tl x) r hs
/-- Which of the rows are given away. -/
def tks : List PT → List Bool
  | [] => []
  | .ow _ _ tk _ :: ps => tk :: tks ps
  | .op _ _ :: ps => false :: tks ps
  | .rd _ :: ps => tks ps
  | .ag _ :: ps => tks ps
  | .fn _ :: ps => tks ps
  | .rp _ _ :: ps => tks ps
def inM (hs : List Hand) (k : Nat) : Prop := ∃ (i : Nat) (h : Hand) (a : Addr), hs[i]? = some h ∧ h.1 = some a ∧ a.block = k
def inT (ps : List PT) (hs : List Hand) (k : Nat) : Prop := ∃ (i : Nat) (h : Hand) (a : Addr), hs[i]? = some h ∧ (tks ps)[i]? = some true ∧ h.1 = some a ∧ a.block = k
theorem inT.m {ps : List PT} {hs : List Hand} (k : Nat) (h : inT ps hs k) : inM hs k := by
  obtain ⟨i, h, a, h1, _, h2⟩ := h
  exact ⟨i, h, a, h1, h2⟩
def Apart (hs : List Hand) : Prop := ∀ (i j : Nat) (h h' : Hand) (a a' : Addr), hs[i]? = some h → hs[j]? = some h' → h.1 = some a → h'.1 = some a' → a.block = a'.block → i = j
/-- What was lent, whole. -/
def hidV : (ps : List PT) → Args ps → List Hand → List Value
  | [], _, _ => []
  | .rd _ :: ps, x, hs => hidV ps (tl x) hs
  | .ag _ :: ps, x, hs => hidV ps (tl x) hs
  | .fn _ :: ps, x, hs => hidV ps (tl x) hs
  | .rp _ _ :: ps, x, hs => hidV ps (tl x) hs
  | .ow _ _ true false :: ps, x, _ :: hs => hidV ps (tl x) hs
  | .ow _ _ true true :: ps, x, _ :: hs => hidV ps (tl x) hs
  | .ow _ _ false false :: ps, x, h :: hs => .slice h.1 (hd x).length h.2 :: hidV ps (tl x) hs
  | .ow _ _ false true :: ps, x, h :: hs => .slice h.1 (hd x).1.length h.2 :: hidV ps (tl x) hs
  | .op _ _ :: ps, x, h :: hs => .slice h.1 1 h.2 :: hidV ps (tl x) hs
  | .ow _ _ _ _ :: _, _, [] => []
  | .op _ _ :: _, _, [] => []
def cxOf (ps : List PT) (x : Args ps) (w : World) (N : Nat → Prop) (hs : List Hand) : Cx := ⟨w, inM hs, inT ps hs, inT.m, N, hidV ps x hs⟩
/-- The results bear the data. -/
def ResR (w : World) (N : Bool → Nat → Prop) : (rs : List RT) → dens (rs.map RT.den) → List Value → List Hand → Prop
  | [], _, vs, os => vs = [] ∧ os = []
  | .rd e fr :: rs, x, vs, os => ∃ v r, vs = v :: r ∧ RD w (N fr) e (hd x) [v] ∧ ResR w N rs (tl x) r os
  | .ag e fr :: rs, x, vs, os => ∃ us r, vs = .agg us :: r ∧ RD w (N fr) e (hd x) us.toList ∧ ResR w N rs (tl x) r os
  | .ow t e false :: rs, x, vs, os => ∃ (o : Hand) (r : List Value) (os' : List Hand), vs = .slice o.1 (hd x).length o.2 :: r ∧ os = o :: os' ∧ OwnR w (N true) t e (hd x) o ∧ ResR w N rs (tl x) r os'
  | .ow t e true :: rs, x, vs, os => ∃ (o : Hand) (r : List Value) (os' : List Hand), vs = .slice o.1 (hd x).2 o.2 :: r ∧ os = o :: os' ∧ (hd x).2 ≤ (hd x).1.length ∧ OwnR w (N true) t e (hd x).1 o ∧ ResR w N rs (tl x) r os'
/-- What was lent bears the data behind the call. -/
def BackR (w : World) (N : Nat → Prop) : (ps : List PT) → Args ps → dens (backs ps) → List Hand → Prop
  | [], _, _, _ => True
  | .rd _ :: ps, x, y, hs => BackR w N ps (tl x) y hs
  | .ag _ :: ps, x, y, hs => BackR w N ps (tl x) y hs
  | .fn _ :: ps, x, y, hs => BackR w N ps (tl x) y hs
  | .rp _ _ :: ps, x, y, hs => BackR w N ps (tl x) y hs
  | .ow _ _ true false :: ps, x, y, _ :: hs => BackR w N ps (tl x) y hs
  | .ow _ _ true true :: ps, x, y, _ :: hs => BackR w N ps (tl x) y hs
  | .ow t e false false :: ps, x, y, h :: hs => (hd y).length = (hd x).length ∧ OwnR w N t e (hd y) h ∧ BackR w N ps (tl x) (tl y) hs
  | .ow t e false true :: ps, x, y, h :: hs => (hd y).length = (hd x).1.length ∧ OwnR w N t e (hd y) h ∧ BackR w N ps (tl x) (tl y) hs
  | .op t e :: ps, x, y, h :: hs => OwnR w N t e [hd y] h ∧ BackR w N ps (tl x) (tl y) hs
  | .ow _ _ _ _ :: _, _, _, [] => False
  | .op _ _ :: _, _, _, [] => False
def packV (vs : List Value) : Value := match vs with
  | [v] => v
  | vs => .tuple vs.toArray
/-- Structs put together, as values. -/
def pkV : List Nat → List Value → List Value
  | [], vs => vs
  | 0 :: g, v :: vs => v :: pkV g vs
  | 0 :: _, [] => []
  | (n + 1) :: g, vs => .agg (vs.take (n + 1)).toArray :: pkV g (vs.drop (n + 1))
theorem cellVals_rel {R : Cell → Value → Prop} : ∀ {cs : List Cell} {us : List Value}, All2 R cs us → All2 (VR R) (cellVals cs) us
  | [], _, .nil => .nil
  | _ :: _, _, .cons h1 h2 => .cons h1 (cellVals_rel h2)
/-- What is taken apart was put together. -/
theorem unpk_rel {R : Cell → Value → Prop} : ∀ {g : List Nat} {vs vs' : List Val} {us : List Value}, unpk g vs = some vs' → All2 (VR R) vs us → ∃ us', us = pkV g us' ∧ All2 (VR R) vs' us'
  | [], vs, vs', us, h, hr => by
    simp only [unpk, Option.some.injEq] at h
    subst h
    exact ⟨us, rfl, hr⟩
  | 0 :: g, v :: vs, vs', u :: us, h, .cons h1 h2 => by
    simp only [unpk] at h
    split at h
    · rename_i r hr
      cases h
      obtain ⟨us', rfl, h3⟩ := unpk_rel hr h2
      exact ⟨u :: us', rfl, .cons h1 h3⟩
    · cases h
  | (n + 1) :: g, v :: vs, vs', u :: us, h, .cons h1 h2 => by
    cases v with
    | v c =>
      cases c with
      | agg cs =>
        simp only [unpk] at h
        split at h
        · rename_i r hb hr
          cases h
          obtain ⟨us', rfl, h3⟩ := unpk_rel hr h2
          obtain ⟨vs1, rfl, h4⟩ := h1
          have hlen : vs1.toList.length = n + 1 := by rw [← h4.length, ← count_eq]; exact Nat.eq_of_beq_eq_true hb
          refine ⟨vs1.toList ++ us', ?_, by rw [app_eq]; exact (cellVals_rel h4).app h3⟩
          simp only [pkV]
          rw [List.take_append_of_le_length (by omega), List.take_of_length_le (by omega), List.drop_append, List.drop_of_length_le (by omega), hlen]
          simp
        · cases h
      | one c => simp [unpk] at h
    | _ => simp [unpk] at h
  | 0 :: _, [], _, _, h, _ => by simp [unpk] at h
  | (_ + 1) :: _, [], _, _, h, _ => by simp [unpk] at h
theorem cellOfV_rel {R : Cell → Value → Prop} (hd : ∀ v, R .dead v) : ∀ {vs : List Val} {us : List Value}, All2 (VR R) vs us → All2 R (cellOfV vs) us
  | [], _, .nil => .nil
  | v :: _, _, .cons h1 h2 => by
    cases v with
    | v c =>
      cases c with
      | one c => exact .cons h1 (cellOfV_rel hd h2)
      | agg cs => exact .cons (hd _) (cellOfV_rel hd h2)
    | _ => exact .cons (hd _) (cellOfV_rel hd h2)
theorem pkT_rel {R : Cell → Value → Prop} (hd : ∀ v, R .dead v) : ∀ {g : List Nat} {vs : List Val} {us : List Value}, All2 (VR R) vs us → All2 (VR R) (pkT g vs) (pkV g us)
  | [], _, _, h => by simpa [pkT, pkV] using h
  | 0 :: _, [], _, .nil => by simp only [pkT, pkV]; exact .nil
  | 0 :: g, _ :: _, _, .cons h1 h2 => by simp only [pkT, pkV]; exact .cons h1 (pkT_rel hd h2)
  | (n + 1) :: g, vs, us, h => by
    simp only [pkT, pkV]
    refine .cons ⟨_, rfl, ?_⟩ (pkT_rel hd (by rw [lasts_eq]; exact h.drop _))
    rw [firsts_eq]
    simpa using cellOfV_rel hd (h.take (n + 1))
theorem cellOfC_rel {R : Cell → Value → Prop} (hd : ∀ v, R .dead v) : ∀ {vs : List Comp} {us : List Value}, All2 (CompR R) vs us → All2 R (cellOfC vs) us
  | [], _, .nil => .nil
  | c :: _, _, .cons h1 h2 => by
    cases c with
    | one c => exact .cons h1 (cellOfC_rel hd h2)
    | agg cs => exact .cons (hd _) (cellOfC_rel hd h2)
theorem pkC_rel {R : Cell → Value → Prop} (hd : ∀ v, R .dead v) : ∀ {g : List Nat} {vs : List Comp} {us : List Value}, All2 (CompR R) vs us → All2 (CompR R) (pkC g vs) (pkV g us)
  | [], _, _, h => by simpa [pkC, pkV] using h
  | 0 :: _, [], _, .nil => by simp only [pkC, pkV]; exact .nil
  | 0 :: g, _ :: _, _, .cons h1 h2 => by simp only [pkC, pkV]; exact .cons h1 (pkC_rel hd h2)
  | (n + 1) :: g, vs, us, h => by
    simp only [pkC, pkV]
    refine .cons ⟨_, rfl, ?_⟩ (pkC_rel hd (by rw [lasts_eq]; exact h.drop _))
    rw [firsts_eq]
    simpa using cellOfC_rel hd (h.take (n + 1))
theorem all2_of {α β : Type} {R : α → β → Prop} : ∀ {l : List α} {m : List β}, l.length = m.length → (∀ (i : Nat) a, l[i]? = some a → ∃ b, m[i]? = some b ∧ R a b) → All2 R l m
  | [], [], _, _ => .nil
  | [], _ :: _, h, _ => by cases h
  | _ :: _, [], h, _ => by cases h
  | a :: l, b :: m, h, h1 => by
    obtain ⟨b', h2, h3⟩ := h1 0 a rfl
    cases h2
    exact .cons h3 (all2_of (by simpa using h) fun i a hi => h1 (i + 1) a hi)
theorem Sim.pk {cx : Cx} {ι : Lay} {ts : List Val} {hid : List Cell} {σ : List (Option Reg)} {us : List Value} {w : World} (g : List Nat) (h : Sim cx ι ⟨ts, hid, σ⟩ us.toArray w) : Sim cx ι ⟨pkT g ts, hid, σ⟩ (pkV g us).toArray w := by
  have h1 : All2 (VR (CR cx w ι σ)) ts us := all2_of (by simpa using h.size) fun i a hi => by
    obtain ⟨u, h2, h3⟩ := h.tmps i a hi
    exact ⟨u, by simpa using h2, h3⟩
  have h2 := pkT_rel (g := g) (fun v => (trivial : CR cx w ι σ .dead v)) h1
  refine ⟨h.keep, h.regs, h.apart, by simpa using h2.length, fun i v hi => ?_, h.hid⟩
  obtain ⟨u, h3, h4⟩ := h2.at i v hi
  exact ⟨u, by simpa using h3, h4⟩
/-- The blocks that a function's results may be read in. -/
def Nf (n0 : Nat) (T N : Nat → Prop) (os : List Hand) (w' : World) (fr : Bool) (k : Nat) : Prop :=
  k < w'.heap.size ∧ (∀ (i : Nat) (o : Hand) (a : Addr), os[i]? = some o → o.1 = some a → a.block ≠ k) ∧ ((n0 ≤ k ∨ T k) ∨ (fr = false ∧ N k))
/-- What holds behind a call. -/
def Post (g : List Nat) (ps : List PT) (rs : List RT) (x : Args ps) (y : Res ps rs) (w : World) (N : Nat → Prop) (hs : List Hand) (v : Value) (w' : World) : Prop :=
  ∃ us os, v = packV (pkV g us) ∧ Kp (inM hs) w w' ∧ Apart os ∧ (∀ (i : Nat) (o : Hand) (a : Addr), os[i]? = some o → o.1 = some a → w.heap.size ≤ a.block ∨ inT ps hs a.block) ∧
    ResR w' (Nf w.heap.size (inT ps hs) N os w') rs (split (rs.map RT.den) y).1 us os ∧ BackR w' (fun _ => True) ps x (split (rs.map RT.den) y).2 hs
/-- A call gives what it should: its text is run, or the machine knows it by itself. -/
def Gives (P : Program) (f : FuncId) (args : Array Value) (w : World) (R : Value → World → Prop) : Prop :=
  ((callFunc f args).run P w = .ok (.enter f args) w ∧ Calls P f args w fun e w' => ∃ v, e = .returned v ∧ R v w') ∨ ∃ v w', (callFunc f args).run P w = .ok (.value v) w' ∧ R v w'
/-- What all functions lean on, over the blocks that are never written: tables of the library. -/
structure Ground where
  is : World → (Nat → Prop) → Prop
  mono : ∀ (w w' : World) (N N' : Nat → Prop), is w N → (∀ k, N k → N' k) → (∀ k, N k → w'.heap[k]? = w.heap[k]?) → is w' N'
def ground : Ground := ⟨fun _ _ => True, fun _ _ _ _ _ _ _ => trivial⟩
def Gok (G : Ground) (cx : Cx) : Prop := G.is cx.w0 cx.N0 ∧ ∀ k, cx.N0 k → k < cx.w0.heap.size ∧ ¬ cx.M k
/-- The function bears its contract. -/
structure Sound (G : Ground) (P : Program) (f : FuncId) (c : Con) : Prop where
  ps : okPs c.ps = true
  rs : okRs c.alias c.rs = true
  calls : ∀ (x : Args c.ps) (y : Res c.ps c.rs), c.f x = some y → ∀ (w : World) (N : Nat → Prop) (vs : List Value) (hs : List Hand), ArgsR w N c.ps x vs hs → Apart hs → (∀ k, N k → k < w.heap.size ∧ ¬ inM hs k) → G.is w N →
    Gives P f (pkV c.pg vs).toArray w fun v w' => Post c.rg c.ps c.rs x y w N hs v w'
section
variable {cx : Cx} {ι ι' : Lay} {st : State} {ts : Array Value} {w : World} {N : Nat → Prop}
theorem Sim.push (h : Sim cx ι st ts w) {v : Val} {u : Value} (hv : VR (CR cx w ι st.σ) v u) : Sim cx ι (pushV st v) (ts.push u) w := by
  refine ⟨h.keep, h.regs, h.apart, ?_, fun i v' hi => ?_, h.hid⟩
  · simp [pushV, app_eq, h.size]
  · simp only [pushV, app_eq] at hi
    rw [List.getElem?_append] at hi
    split at hi
    · rename_i hlt
      obtain ⟨u', h1, h2⟩ := h.tmps i v' hi
      have : i < ts.size := by rw [← h.size]; exact hlt
      exact ⟨u', by rw [Array.getElem?_push, if_neg (by omega)]; exact h1, h2⟩
    · rename_i hlt
      have hi0 : i - st.ts.length = 0 := by
        cases hk : i - st.ts.length with
        | zero => rfl
        | succ n => rw [hk] at hi; simp at hi
      rw [hi0] at hi
      simp at hi
      subst hi
      have : i = ts.size := by rw [← h.size]; omega
      subst this
      exact ⟨u, by simp, hv⟩
/-- The rows that were lent or given, where they lie. -/
def RowsAt (ι : Lay) (σ : List (Option Reg)) : (ps : List PT) → Args ps → Nat → List Hand → Prop
  | [], _, _, _ => True
  | .rd _ :: ps, x, k, hs => RowsAt ι σ ps (tl x) k hs
  | .ag _ :: ps, x, k, hs => RowsAt ι σ ps (tl x) k hs
  | .fn _ :: ps, x, k, hs => RowsAt ι σ ps (tl x) k hs
  | .rp _ _ :: ps, x, k, hs => RowsAt ι σ ps (tl x) k hs
  | .ow t e tk false :: ps, x, k, h :: hs => live σ k ⟨t, e, hd x, true, tk⟩ ∧ ι k = h ∧ RowsAt ι σ ps (tl x) (k + 1) hs
  | .ow t e tk true :: ps, x, k, h :: hs => live σ k ⟨t, e, (hd x).1, true, tk⟩ ∧ ι k = h ∧ RowsAt ι σ ps (tl x) (k + 1) hs
  | .op t e :: ps, x, k, h :: hs => live σ k ⟨t, e, [hd x], true, false⟩ ∧ ι k = h ∧ RowsAt ι σ ps (tl x) (k + 1) hs
  | .ow _ _ _ _ :: _, _, _, [] => True
  | .op _ _ :: _, _, _, [] => True
theorem RowsAt.mono {σ σ' : List (Option Reg)} (h : ∀ k g, live σ k g → live σ' k g ∧ ι' k = ι k) : ∀ (ps : List PT) {x : Args ps} {k : Nat} {hs : List Hand}, RowsAt ι σ ps x k hs → RowsAt ι' σ' ps x k hs
  | [], _, _, _, _ => trivial
  | .rd _ :: ps, x, k, hs, h1 => RowsAt.mono h ps (x := tl x) (k := k) (hs := hs) h1
  | .ag _ :: ps, x, k, hs, h1 => RowsAt.mono h ps (x := tl x) (k := k) (hs := hs) h1
  | .fn _ :: ps, x, k, hs, h1 => RowsAt.mono h ps (x := tl x) (k := k) (hs := hs) h1
  | .rp _ _ :: ps, x, k, hs, h1 => RowsAt.mono h ps (x := tl x) (k := k) (hs := hs) h1
  | .ow _ _ _ false :: ps, _, _, _ :: _, h1 => ⟨(h _ _ h1.1).1, (h _ _ h1.1).2.trans h1.2.1, RowsAt.mono h ps h1.2.2⟩
  | .ow _ _ _ true :: ps, _, _, _ :: _, h1 => ⟨(h _ _ h1.1).1, (h _ _ h1.1).2.trans h1.2.1, RowsAt.mono h ps h1.2.2⟩
  | .op _ _ :: ps, _, _, _ :: _, h1 => ⟨(h _ _ h1.1).1, (h _ _ h1.1).2.trans h1.2.1, RowsAt.mono h ps h1.2.2⟩
  | .ow _ _ _ false :: _, _, _, [], _ => trivial
  | .ow _ _ _ true :: _, _, _, [], _ => trivial
  | .op _ _ :: _, _, _, [], _ => trivial
theorem live_self (ι : Lay) (σ : List (Option Reg)) {k : Nat} {g g' : Reg} (h : live σ k g) : ∀ x, live (σ ++ [some g']) k g ∧ lay ι σ.length x k = ι k := fun x =>
  ⟨live_new.2 (.inl h), by have := live_lt h; unfold lay; rw [if_neg (by omega)]⟩
theorem entryTs_sim (hN : ∀ k, N k → k < w.heap.size ∧ ¬ cx.M k) (hc : cx.N0 = N) (hw : cx.w0 = w) : ∀ (ps : List PT) {x : Args ps} {k : Nat} {hs : List Hand} {vs : List Value} {st : State} {ι : Lay} {ts : Array Value},
    ArgsR w N ps x vs hs → Sim cx ι st ts w → RowsAt ι st.σ ps x k hs → (∀ k, Own ι st.σ k → cx.M k) → ∃ ι', Sim cx ι' (entryTs ps x k st) (ts ++ vs.toArray) w
  | [], x, k, hs, vs, st, ι, ts, ha, h, hr, hO => by
    obtain ⟨rfl, rfl⟩ := ha
    exact ⟨ι, by simpa [entryTs] using h⟩
  | .rd e :: ps, x, k, hs, vs, st, ι, ts, ha, h, hr, hO => by
    obtain ⟨v, r, rfl, h1, h2⟩ := ha
    have hrd : RD w (Rdb cx w ι st.σ false) e (hd x) [v] := h1.mono (fun k hk => ⟨(hN k hk).1, fun ho => (hN k hk).2 (hO k ho), .inr ⟨rfl, by rw [hc]; exact hk⟩⟩) (fun _ _ => rfl)
    have hrel := enc_rel hrd
    have fin : ∀ {st' : State} {ι' : Lay}, Sim cx ι' st' (ts.push v) w → RowsAt ι' st'.σ ps (tl x) k hs → (∀ k, Own ι' st'.σ k → cx.M k) → ∃ ι'', Sim cx ι'' (entryTs ps (tl x) k st') (ts ++ (v :: r).toArray) w := fun hs' hr' hO' => by
      have := entryTs_sim hN hc hw ps h2 hs' hr' hO'
      simpa using this
    simp only [entryTs]
    split
    · rename_i t e' l fr hl
      rw [hl] at hrel
      cases hrel with
      | cons h3 h4 =>
        have hcl : CR cx w ι st.σ (.lst t e' l fr) v := h3
        have h5 : RD w (Rdb cx w ι st.σ fr) (.slice t e') l [v] := hcl
        obtain ⟨A, c, e1, hcap, h6⟩ := id h5
        simp only [List.cons.injEq, and_true] at e1
        subst e1
        have hs1 := h.add (w' := w) ⟨rfl, rfl, rfl, Nat.le_refl _, fun _ _ _ => rfl⟩ ⟨t, e', l, false, false⟩ A c (fun hh => by cases hh) (fun _ => h5.le (fun hh => by cases hh))
        have hσ : (st.new ⟨t, e', l, false, false⟩).σ = st.σ ++ [some ⟨t, e', l, false, false⟩] := by simp [State.new, app_eq]
        refine fin (hs1.push (v := .v (.one (.ref (count st.σ) .all))) ?_) ?_ ?_
        · rw [hσ, count_eq]
          refine ⟨by simp, fun g hg => ?_⟩
          rcases live_new.1 hg with h7 | ⟨_, rfl⟩
          · exact absurd (live_lt h7) (Nat.lt_irrefl _)
          · unfold lay; rw [if_pos rfl]; rfl
        · show RowsAt _ (st.new ⟨t, e', l, false, false⟩).σ _ _ _ _
          rw [hσ]
          exact RowsAt.mono (fun _ _ hl => live_self ι st.σ hl _) ps hr
        · show ∀ k, Own _ (st.new ⟨t, e', l, false, false⟩).σ k → _
          rw [hσ]
          rintro k ⟨r', g, a, h7, h8, h9, h10⟩
          rcases live_new.1 h7 with h7 | ⟨_, rfl⟩
          · have := live_lt h7
            unfold lay at h9
            rw [if_neg (by omega)] at h9
            exact hO k ⟨r', g, a, h7, h8, h9, h10⟩
          · cases h8
    · rename_i c _ hl
      rw [hl] at hrel
      cases hrel with
      | cons h3 h4 => exact fin (h.push (v := .v (.one c)) h3) hr hO
    · exact fin (h.push (v := .dead) trivial) hr hO
  | .ag e :: ps, x, k, hs, vs, st, ι, ts, ha, h, hr, hO => by
    obtain ⟨us, r, rfl, h1, h2⟩ := ha
    have hrd : RD w (Rdb cx w ι st.σ false) e (hd x) us.toList := h1.mono (fun k hk => ⟨(hN k hk).1, fun ho => (hN k hk).2 (hO k ho), .inr ⟨rfl, by rw [hc]; exact hk⟩⟩) (fun _ _ => rfl)
    have := entryTs_sim hN hc hw ps (k := k) h2 (h.push (v := .v (.agg (enc e (hd x) false))) ⟨us, rfl, enc_rel hrd⟩) hr hO
    simpa [entryTs] using this
  | .fn f :: ps, x, k, hs, vs, st, ι, ts, ha, h, hr, hO => by
    obtain ⟨r, rfl, h2⟩ := ha
    have := entryTs_sim hN hc hw ps (k := k) h2 (h.push (v := .v (.one (.fn f))) rfl) hr hO
    simpa [entryTs] using this
  | .rp t e' :: ps, x, k, hs, vs, st, ι, ts, ha, h, hr, hO => by
    obtain ⟨a0, c, r, rfl, h1, h2⟩ := ha
    have h5 : RD w (Rdb cx w ι st.σ false) (.slice t e') [hd x] [.slice (some a0) 1 c] := h1.mono (fun k hk => ⟨(hN k hk).1, fun ho => (hN k hk).2 (hO k ho), .inr ⟨rfl, by rw [hc]; exact hk⟩⟩) (fun _ _ => rfl)
    have hs1 := h.add (w' := w) ⟨rfl, rfl, rfl, Nat.le_refl _, fun _ _ _ => rfl⟩ ⟨t, e', [hd x], false, false⟩ (some a0) c (fun hh => by cases hh) (fun _ => h5.le (fun hh => by cases hh))
    have hσ : (st.new ⟨t, e', [hd x], false, false⟩).σ = st.σ ++ [some ⟨t, e', [hd x], false, false⟩] := by simp [State.new, app_eq]
    have := entryTs_sim hN hc hw ps (k := k) h2 (hs1.push (v := .v (.one (.ptr (count st.σ) 0 0))) (u := .pointer (some a0)) (by
        rw [hσ, count_eq]
        refine ⟨by simp, fun g hg => ?_⟩
        rcases live_new.1 hg with h7 | ⟨_, rfl⟩
        · exact absurd (live_lt h7) (Nat.lt_irrefl _)
        · refine ⟨a0, by unfold lay; rw [if_pos rfl], by simp, by simp [Addr.add]⟩)) (by
        show RowsAt _ (st.new ⟨t, e', [hd x], false, false⟩).σ _ _ _ _
        rw [hσ]
        exact RowsAt.mono (fun _ _ hl => live_self ι st.σ hl _) ps hr) (by
        show ∀ k, Own _ (st.new ⟨t, e', [hd x], false, false⟩).σ k → _
        rw [hσ]
        rintro k ⟨r', g, a, h7, h8, h9, h10⟩
        rcases live_new.1 h7 with h7 | ⟨_, rfl⟩
        · have := live_lt h7
          unfold lay at h9
          rw [if_neg (by omega)] at h9
          exact hO k ⟨r', g, a, h7, h8, h9, h10⟩
        · cases h8)
    simpa [entryTs] using this
  | .ow t e tk false :: ps, x, k, hs, vs, st, ι, ts, ha, h, hr, hO => by
    obtain ⟨hh, r, hr', rfl, rfl, h1, h2⟩ := ha
    obtain ⟨h3, h4, h5⟩ := hr
    have := entryTs_sim hN hc hw ps (k := k + 1) h2 (h.push (v := .v (.one (.ref k .all))) (u := .slice hh.1 (hd x).length hh.2) ⟨live_lt h3, fun g hg => by
      obtain rfl := live_fun h3 hg
      rw [h4]; rfl⟩) h5 hO
    simpa [entryTs] using this
  | .ow t e tk true :: ps, x, k, hs, vs, st, ι, ts, ha, h, hr, hO => by
    obtain ⟨hh, r, hr', rfl, rfl, hle, h1, h2⟩ := ha
    obtain ⟨h3, h4, h5⟩ := hr
    have := entryTs_sim hN hc hw ps (k := k + 1) h2 (h.push (v := .v (.one (.ref k (.pre (hd x).2)))) (u := .slice hh.1 (hd x).2 hh.2) ⟨live_lt h3, fun g hg => by
      obtain rfl := live_fun h3 hg
      rw [h4]; exact ⟨hle, rfl⟩⟩) h5 hO
    simpa [entryTs] using this
  | .op t e :: ps, x, k, hs, vs, st, ι, ts, ha, h, hr, hO => by
    obtain ⟨a, c, r, hr', rfl, rfl, h1, h2⟩ := ha
    obtain ⟨h3, h4, h5⟩ := hr
    have := entryTs_sim hN hc hw ps (k := k + 1) h2 (h.push (v := .v (.one (.ptr k 0 0))) (u := .pointer (some a)) ⟨live_lt h3, fun g hg => by
      obtain rfl := live_fun h3 hg
      rw [h4]; exact ⟨a, rfl, by show 0 < 1; omega, by simp [Addr.add]⟩⟩) h5 hO
    simpa [entryTs] using this
end
end Go.Proofs.Ytpfjneaoankllaa.Ev

/-! A function's begin. -/
namespace Go.Proofs.Ytpfjneaoankllaa.Ev
open Go.RowKit
section
variable {cx : Cx} {ι ι' : Lay} {st : State} {ts : Array Value} {w : World} {N : Nat → Prop}
theorem flat_nv : ∀ {e : Ty}, flat e = true → isVar e = false
  | .var _, h => by cases h
  | .int _, _ => rfl
  | .bool, _ => rfl
  | .str, _ => rfl
  | .pair _ _, _ => rfl
  | .slice _ _, _ => rfl
  | .unit, _ => rfl
theorem ref_hid {cx : Cx} {w : World} {ι : Lay} {σ0 σ : List (Option Reg)} {g : Reg} {h : Hand} (hι : ι σ0.length = h) {v : Value} (hv : v = .slice h.1 g.l.length h.2) : CR cx w ι (σ0 ++ some g :: σ) (.ref σ0.length .all) v := by
  refine ⟨by simp, fun g' hg => ?_⟩
  have h1 : live (σ0 ++ some g :: σ) σ0.length g := by unfold live; simp
  obtain rfl := live_fun h1 hg
  rw [hι]
  exact hv
theorem live_mid (σ0 σ : List (Option Reg)) (g : Reg) : live (σ0 ++ some g :: σ) σ0.length g := by unfold live; simp
theorem entryOwn_spec : ∀ (ps : List PT) {x : Args ps} {k : Nat} {hs : List Hand} {vs : List Value} {hid : List Cell} {σ : List (Option Reg)}, ArgsR w N ps x vs hs → entryOwn ps x k = (hid, σ) →
    σ.length = hs.length ∧ (∀ (i : Nat) g, live σ i g → ∃ h, hs[i]? = some h ∧ g.own = true ∧ OwnR w N g.t g.e g.l h ∧ (tks ps)[i]? = some g.fr ∧ (okPs ps = true → flat g.e = true)) ∧
    (∀ (cx : Cx) (σ0 : List (Option Reg)) (ι : Lay), σ0.length = k → (∀ (i : Nat) h, hs[i]? = some h → ι (k + i) = h) → All2 (CR cx w ι (σ0 ++ σ)) hid (hidV ps x hs) ∧ RowsAt ι (σ0 ++ σ) ps x k hs)
  | [], x, k, hs, vs, hid, σ, ha, he => by
    obtain ⟨rfl, rfl⟩ := ha
    cases he
    exact ⟨rfl, fun i g h => by simp [live] at h, fun cx σ0 ι h1 h2 => ⟨.nil, trivial⟩⟩
  | .rd e :: ps, x, k, hs, vs, hid, σ, ha, he => by
    obtain ⟨v, r, rfl, h1, h2⟩ := ha
    obtain ⟨h3, h4, h5⟩ := entryOwn_spec ps h2 he
    exact ⟨h3, fun i g h => by
      obtain ⟨h', a, b, c, d, e⟩ := h4 i g h
      exact ⟨h', a, b, c, d, fun ho => e (by simpa [okPs, okP] using ho)⟩, h5⟩
  | .ag e :: ps, x, k, hs, vs, hid, σ, ha, he => by
    obtain ⟨v, r, rfl, h1, h2⟩ := ha
    obtain ⟨h3, h4, h5⟩ := entryOwn_spec ps h2 he
    exact ⟨h3, fun i g h => by
      obtain ⟨h', a, b, c, d, e⟩ := h4 i g h
      exact ⟨h', a, b, c, d, fun ho => e (by simpa [okPs, okP] using ho)⟩, h5⟩
  | .rp t e :: ps, x, k, hs, vs, hid, σ, ha, he => by
    obtain ⟨a0, c0, r, rfl, h1, h2⟩ := ha
    obtain ⟨h3, h4, h5⟩ := entryOwn_spec ps h2 he
    exact ⟨h3, fun i g h => by
      obtain ⟨h', a, b, c, d, e⟩ := h4 i g h
      exact ⟨h', a, b, c, d, fun ho => e (by simpa [okPs, okP] using ho)⟩, h5⟩
  | .fn f :: ps, x, k, hs, vs, hid, σ, ha, he => by
    obtain ⟨r, rfl, h2⟩ := ha
    obtain ⟨h3, h4, h5⟩ := entryOwn_spec ps h2 he
    exact ⟨h3, fun i g h => by
      obtain ⟨h', a, b, c, d, e⟩ := h4 i g h
      exact ⟨h', a, b, c, d, fun ho => e (by simpa [okPs, okP] using ho)⟩, h5⟩
  | .ow t e tk false :: ps, x, k, hs, vs, hid, σ, ha, he => by
    obtain ⟨hh, r, hr, rfl, rfl, h1, h2⟩ := ha
    simp only [entryOwn] at he
    obtain ⟨⟨hid', σ'⟩, he'⟩ : ∃ p, entryOwn ps (tl x) (k + 1) = p := ⟨_, rfl⟩
    rw [he'] at he
    dsimp only at he
    obtain ⟨h3, h4, h5⟩ := entryOwn_spec ps h2 he'
    cases he
    refine ⟨by simp [h3], fun i g h => ?_, fun cx σ0 ι hk hι => ?_⟩
    · cases i with
      | zero =>
        simp [live] at h
        subst h
        exact ⟨hh, rfl, rfl, h1, rfl, fun ho => by
          simp only [okPs, okP] at ho
          split at ho
          · assumption
          · cases ho⟩
      | succ i =>
        obtain ⟨h', a, b, c, d, e⟩ := h4 i g (by simpa [live] using h)
        exact ⟨h', a, b, c, d, fun ho => e (by
          simp only [okPs] at ho
          split at ho
          · exact ho
          · cases ho)⟩
    · subst hk
      obtain ⟨h6, h7⟩ := h5 cx (σ0 ++ [some ⟨t, e, hd x, true, tk⟩]) ι (by simp) (fun i h hi => by
        have := hι (i + 1) h hi
        rwa [show σ0.length + (i + 1) = σ0.length + 1 + i from by omega] at this)
      rw [List.append_assoc] at h6 h7
      have h0 : ι σ0.length = hh := hι 0 hh rfl
      refine ⟨?_, live_mid _ _ _, h0, h7⟩
      cases tk with
      | true => exact h6
      | false => exact .cons (ref_hid h0 rfl) h6
  | .ow t e tk true :: ps, x, k, hs, vs, hid, σ, ha, he => by
    obtain ⟨hh, r, hr, rfl, rfl, hle, h1, h2⟩ := ha
    simp only [entryOwn] at he
    obtain ⟨⟨hid', σ'⟩, he'⟩ : ∃ p, entryOwn ps (tl x) (k + 1) = p := ⟨_, rfl⟩
    rw [he'] at he
    dsimp only at he
    obtain ⟨h3, h4, h5⟩ := entryOwn_spec ps h2 he'
    cases he
    refine ⟨by simp [h3], fun i g h => ?_, fun cx σ0 ι hk hι => ?_⟩
    · cases i with
      | zero =>
        simp [live] at h
        subst h
        exact ⟨hh, rfl, rfl, h1, rfl, fun ho => by
          simp only [okPs, okP] at ho
          split at ho
          · assumption
          · cases ho⟩
      | succ i =>
        obtain ⟨h', a, b, c, d, e⟩ := h4 i g (by simpa [live] using h)
        exact ⟨h', a, b, c, d, fun ho => e (by
          simp only [okPs] at ho
          split at ho
          · exact ho
          · cases ho)⟩
    · subst hk
      obtain ⟨h6, h7⟩ := h5 cx (σ0 ++ [some ⟨t, e, (hd x).1, true, tk⟩]) ι (by simp) (fun i h hi => by
        have := hι (i + 1) h hi
        rwa [show σ0.length + (i + 1) = σ0.length + 1 + i from by omega] at this)
      rw [List.append_assoc] at h6 h7
      have h0 : ι σ0.length = hh := hι 0 hh rfl
      refine ⟨?_, live_mid _ _ _, h0, h7⟩
      cases tk with
      | true => exact h6
      | false => exact .cons (ref_hid h0 rfl) h6
  | .op t e :: ps, x, k, hs, vs, hid, σ, ha, he => by
    obtain ⟨a, c, r, hr, rfl, rfl, h1, h2⟩ := ha
    simp only [entryOwn] at he
    obtain ⟨⟨hid', σ'⟩, he'⟩ : ∃ p, entryOwn ps (tl x) (k + 1) = p := ⟨_, rfl⟩
    rw [he'] at he
    dsimp only at he
    obtain ⟨h3, h4, h5⟩ := entryOwn_spec ps h2 he'
    cases he
    refine ⟨by simp [h3], fun i g h => ?_, fun cx σ0 ι hk hι => ?_⟩
    · cases i with
      | zero =>
        simp [live] at h
        subst h
        exact ⟨(some a, c), rfl, rfl, h1, rfl, fun ho => by
          simp only [okPs, okP] at ho
          split at ho
          · assumption
          · cases ho⟩
      | succ i =>
        obtain ⟨h', a, b, c, d, e⟩ := h4 i g (by simpa [live] using h)
        exact ⟨h', a, b, c, d, fun ho => e (by
          simp only [okPs] at ho
          split at ho
          · exact ho
          · cases ho)⟩
    · subst hk
      obtain ⟨h6, h7⟩ := h5 cx (σ0 ++ [some ⟨t, e, [hd x], true, false⟩]) ι (by simp) (fun i h hi => by
        have := hι (i + 1) h hi
        rwa [show σ0.length + (i + 1) = σ0.length + 1 + i from by omega] at this)
      rw [List.append_assoc] at h6 h7
      have h0 : ι σ0.length = (some a, c) := hι 0 _ rfl
      exact ⟨.cons (ref_hid h0 rfl) h6, live_mid _ _ _, h0, h7⟩
theorem entry_sim {ps : List PT} {x : Args ps} {hs : List Hand} {vs : List Value} (hps : okPs ps = true) (ha : ArgsR w N ps x vs hs) (hap : Apart hs) (hN : ∀ k, N k → k < w.heap.size ∧ ¬ inM hs k) :
    ∃ ι, Sim (cxOf ps x w N hs) ι (entry ps x) vs.toArray w := by
  unfold entry
  split
  rename_i hid σ he
  obtain ⟨h1, h2, h3⟩ := entryOwn_spec ps ha he
  let ι : Lay := fun i => (hs[i]?).getD (none, 0)
  have hι : ∀ (i : Nat) h, hs[i]? = some h → ι i = h := fun i h hi => by show (hs[i]?).getD (none, 0) = h; rw [hi]; rfl
  obtain ⟨h4, h5⟩ := h3 (cxOf ps x w N hs) [] ι rfl (fun i h hi => by rw [Nat.zero_add]; exact hι i h hi)
  have hO : ∀ k, Own ι σ k → inM hs k := fun k ⟨r, g, a, h6, h7, h8, h9⟩ => by
    obtain ⟨h, h10, _⟩ := h2 r g h6
    rw [hι r h h10] at h8
    exact ⟨r, h, a, h10, h8, h9⟩
  have hs0 : Sim (cxOf ps x w N hs) ι ⟨[], hid, σ⟩ #[] w := by
    refine ⟨⟨rfl, rfl, rfl, Nat.le_refl _, fun _ _ _ => rfl⟩, fun r g hr => ?_, fun r r' g g' a a' h6 h7 h8 h9 h10 h11 h12 => ?_, rfl, fun i v h => by simp at h, h4⟩
    · obtain ⟨h, h6, h7, ⟨xs, h8, h9⟩, h10, h11⟩ := h2 r g hr
      rw [hι r h h6]
      refine ⟨fun _ => ⟨xs, h8.flat (h11 hps), h9, fun a ha => ⟨fun hf => .inr ⟨r, h, a, h6, by rw [h10, hf], ha, rfl⟩, .inr ⟨r, h, a, h6, ha, rfl⟩⟩, VarR.nv (flat_nv (h11 hps))⟩, fun hh => by rw [h7] at hh; cases hh⟩
    · obtain ⟨h, h13, _⟩ := h2 r g h6
      obtain ⟨h', h14, _⟩ := h2 r' g' h7
      rw [hι r h h13] at h10
      rw [hι r' h' h14] at h11
      exact hap r r' h h' a a' h13 h14 h10 h11 h12
  have := entryTs_sim (cx := cxOf ps x w N hs) (k := 0) hN rfl rfl ps ha hs0 h5 hO
  simpa using this
theorem Sim.pad {ts' : List Val} {hid : List Cell} {σ : List (Option Reg)} (h : Sim cx ι ⟨ts', hid, σ⟩ ts w) (n : Nat) : Sim cx ι ⟨app ts' (deads n), hid, σ⟩ (ts ++ Array.replicate n undef) w := by
  refine ⟨h.keep, h.regs, h.apart, ?_, fun i v hi => ?_, h.hid⟩
  · have := h.size
    simp [app_eq, deads_eq]
    exact this
  · simp only [app_eq, deads_eq] at hi
    rw [List.getElem?_append] at hi
    have hsz : ts'.length = ts.size := h.size
    split at hi
    · rename_i hlt
      obtain ⟨u, h1, h2⟩ := h.tmps i v hi
      exact ⟨u, by rw [Array.getElem?_append_left (by omega)]; exact h1, h2⟩
    · rename_i hge
      rw [List.getElem?_replicate] at hi
      split at hi
      · rename_i hlt
        cases hi
        refine ⟨undef, ?_, trivial⟩
        rw [Array.getElem?_append_right (by omega), Array.getElem?_replicate, if_pos (by omega)]
      · cases hi
end
end Go.Proofs.Ytpfjneaoankllaa.Ev

/-! A function's end. -/
namespace Go.Proofs.Ytpfjneaoankllaa.Ev
open Go.RowKit
section
variable {cx : Cx} {ι ι' : Lay} {st : State} {ts : Array Value} {w : World} {N : Nat → Prop}
theorem ResR.mono {N N' : Bool → Nat → Prop} (h : ∀ fr k, N fr k → N' fr k) : ∀ (rs : List RT) {x : dens (rs.map RT.den)} {vs : List Value} {os : List Hand}, ResR w N rs x vs os → ResR w N' rs x vs os
  | [], _, _, _, h1 => h1
  | .rd e fr :: rs, _, _, _, h1 => by
    obtain ⟨v, r, h2, h3, h4⟩ := h1
    exact ⟨v, r, h2, h3.mono (h fr) (fun _ _ => rfl), ResR.mono h rs h4⟩
  | .ag e fr :: rs, _, _, _, h1 => by
    obtain ⟨v, r, h2, h3, h4⟩ := h1
    exact ⟨v, r, h2, h3.mono (h fr) (fun _ _ => rfl), ResR.mono h rs h4⟩
  | .ow t e false :: rs, _, _, _, h1 => by
    obtain ⟨o, r, os', h2, h3, ⟨xs, h5, h6⟩, h4⟩ := h1
    exact ⟨o, r, os', h2, h3, ⟨xs, h5.mono (h true) (fun _ _ => rfl), h6⟩, ResR.mono h rs h4⟩
  | .ow t e true :: rs, _, _, _, h1 => by
    obtain ⟨o, r, os', h2, h3, h7, ⟨xs, h5, h6⟩, h4⟩ := h1
    exact ⟨o, r, os', h2, h3, h7, ⟨xs, h5.mono (h true) (fun _ _ => rfl), h6⟩, ResR.mono h rs h4⟩
theorem lockR_sim : ∀ {rs : List RT} {vs : List Val} {us : List Value} {st st' : State}, Sim cx ι st ts w → All2 (VR (CRs cx ι st w)) vs us → lockR rs vs st = some st' → Sim cx ι st' ts w ∧ All2 (VR (CRs cx ι st' w)) vs us
  | [], [], us, st, st', h, hv, he => by
    simp only [lockR] at he
    cases he
    exact ⟨h, hv⟩
  | .ow _ _ _ :: rs, v :: vs, u :: us, st, st', h, .cons h1 h2, he => by
    simp only [lockR] at he
    have keep : ∀ {st1 : State}, On cx ι st.σ w ι st1.σ w → True := fun _ => trivial
    have := lockR_on h h2 he
    exact ⟨this.1, .cons (h1.imp fun _ _ => this.2.1.cr) this.2.2⟩
  | .rd _ _ :: rs, v :: vs, u :: us, st, st', h, .cons h1 h2, he => by
    have := lockR_on h (.cons h1 h2) he
    exact ⟨this.1, this.2.2⟩
  | .ag _ _ :: rs, v :: vs, u :: us, st, st', h, .cons h1 h2, he => by
    have := lockR_on h (.cons h1 h2) he
    exact ⟨this.1, this.2.2⟩
  | [], _ :: _, _, _, _, _, _, he => by simp [lockR] at he
  | .ow _ _ _ :: _, [], _, _, _, _, _, he => by simp [lockR] at he
  | .rd _ _ :: _, [], _, _, _, _, _, he => by simp [lockR] at he
  | .ag _ _ :: _, [], _, _, _, _, _, he => by simp [lockR] at he
where
  lockR_on : ∀ {rs : List RT} {vs : List Val} {us : List Value} {st st' : State}, Sim cx ι st ts w → All2 (VR (CRs cx ι st w)) vs us → lockR rs vs st = some st' → Sim cx ι st' ts w ∧ On cx ι st.σ w ι st'.σ w ∧ All2 (VR (CRs cx ι st' w)) vs us
  | [], [], us, st, st', h, hv, he => by
    simp only [lockR] at he
    cases he
    exact ⟨h, On.refl, hv⟩
  | .ow _ _ _ :: rs, v :: vs, u :: us, st, st', h, .cons h1 h2, he => by
    simp only [lockR] at he
    obtain ⟨h3, h4, h5⟩ := lockR_on h h2 he
    exact ⟨h3, h4, .cons (h1.imp fun _ _ => h4.cr) h5⟩
  | .rd _ _ :: rs, .v c :: vs, u :: us, st, st', h, .cons h1 h2, he => by
    simp only [lockR] at he
    split at he
    · rename_i cs hcs
      have h1' : CompR (CRs cx ι st w) c u := h1
      obtain ⟨h6, h7, _⟩ := embL_rel h (cells_rel h1' hcs) hcs
      obtain ⟨h3, h4, h5⟩ := lockR_on h6 (h2.imp fun _ _ hh => hh.imp fun _ _ => h7.cr) he
      exact ⟨h3, h7.trans h4, .cons (h1.imp fun _ _ => (h7.trans h4).cr) h5⟩
    · cases he
  | .ag _ _ :: rs, .v c :: vs, u :: us, st, st', h, .cons h1 h2, he => by
    simp only [lockR] at he
    split at he
    · rename_i cs hcs
      have h1' : CompR (CRs cx ι st w) c u := h1
      obtain ⟨h6, h7, _⟩ := embL_rel h (cells_rel h1' hcs) hcs
      obtain ⟨h3, h4, h5⟩ := lockR_on h6 (h2.imp fun _ _ hh => hh.imp fun _ _ => h7.cr) he
      exact ⟨h3, h7.trans h4, .cons (h1.imp fun _ _ => (h7.trans h4).cr) h5⟩
    · cases he
  | [], _ :: _, _, _, _, _, _, he => by simp [lockR] at he
  | .ow _ _ _ :: _, [], _, _, _, _, _, he => by simp [lockR] at he
  | .rd _ _ :: _, [], _, _, _, _, _, he => by simp [lockR] at he
  | .ag _ _ :: _, [], _, _, _, _, _, he => by simp [lockR] at he
  | .rd _ _ :: _, .tup _ :: _, _, _, _, _, _, he => by simp [lockR] at he
  | .ag _ _ :: _, .tup _ :: _, _, _, _, _, _, he => by simp [lockR] at he
  | .rd _ _ :: _, .dead :: _, _, _, _, _, _, he => by simp [lockR] at he
  | .ag _ _ :: _, .dead :: _, _, _, _, _, _, he => by simp [lockR] at he
  | .rd _ _ :: _, .un :: _, _, _, _, _, _, he => by simp [lockR] at he
  | .ag _ _ :: _, .un :: _, _, _, _, _, _, he => by simp [lockR] at he
/-- A cell as data, out of a state where nothing of it is written any more. -/
theorem off_rel (hs : Sim cx ι st ts w) {c c' : Cell} {v : Value} (hc : CRs cx ι st w c v) (he : offC st c = some c') : CRs cx ι st w c' v := by
  cases c with
  | ref r s =>
    simp only [offC] at he
    split at he
    · rename_i t e l fr hg
      obtain rfl := Option.some.inj he
      have hl := reg_eq.1 hg
      exact view_rd ((hs.regs r _ hl).2 rfl) (hc.2 _ hl)
    · cases he
  | _ => simp [offC, expC] at he <;> (try (subst he; exact hc))
theorem offL_rel (hs : Sim cx ι st ts w) : ∀ {cs cs' : List Cell} {vs : List Value}, All2 (CRs cx ι st w) cs vs → offL st cs = some cs' → All2 (CRs cx ι st w) cs' vs
  | [], _, _, .nil, he => by cases he; exact .nil
  | c :: cs, _, _, .cons h1 h2, he => by
    simp only [offL] at he
    split at he
    · rename_i c' hc
      split at he
      · rename_i r' hr
        cases he
        exact .cons (off_rel hs h1 hc) (offL_rel hs h2 hr)
      · cases he
    · cases he
inductive Corr (ι : Lay) (σ : List (Option Reg)) : List Nat → List Hand → Prop
  | nil : Corr ι σ [] []
  | cons {r g ks os} : live σ r g → g.own = true → g.fr = true → Corr ι σ ks os → Corr ι σ (r :: ks) (ι r :: os)
  | skip {ks os} : Corr ι σ ks os → Corr ι σ ks ((none, 0) :: os)
theorem Corr.app {σ : List (Option Reg)} {ks ks' : List Nat} {os os' : List Hand} (h : Corr ι σ ks os) (h' : Corr ι σ ks' os') : Corr ι σ (ks ++ ks') (os ++ os') := by
  induction h with
  | nil => exact h'
  | cons h1 h2 h3 _ ih => exact .cons h1 h2 h3 ih
  | skip _ ih => exact .skip ih
theorem Corr.at {σ : List (Option Reg)} {ks : List Nat} {os : List Hand} (h : Corr ι σ ks os) : ∀ (i : Nat) (o : Hand) (a : Addr), os[i]? = some o → o.1 = some a → ∃ r g, r ∈ ks ∧ live σ r g ∧ g.own = true ∧ g.fr = true ∧ (ι r).1 = some a := by
  induction h with
  | nil => intro i o a h; simp at h
  | @cons r g ks os h1 h2 h3 _ ih =>
    intro i o a ho ha
    cases i with
    | zero => simp at ho; subst ho; exact ⟨r, g, by simp, h1, h2, h3, ha⟩
    | succ i =>
      obtain ⟨r', g', h4, h5⟩ := ih i o a (by simpa using ho) ha
      exact ⟨r', g', by simp [h4], h5⟩
  | skip _ ih =>
    intro i o a ho ha
    cases i with
    | zero => simp at ho; subst ho; cases ha
    | succ i => exact ih i o a (by simpa using ho) ha
theorem hasNat_mem {n : Nat} : ∀ {l : List Nat}, hasNat n l = false → n ∉ l
  | [], _ => by simp
  | m :: r, h => by
    simp only [hasNat] at h
    split at h
    · cases h
    · rename_i hb
      intro hm
      rcases List.mem_cons.1 hm with rfl | hm
      · simp at hb
      · exact hasNat_mem h hm
theorem Corr.apart (hs : Sim cx ι st ts w) {ks : List Nat} {os : List Hand} (h : Corr ι st.σ ks os) (hn : noTwice ks = true) : Apart os := by
  induction h with
  | nil => intro i j h h' a a' h1; simp at h1
  | @cons r g ks os h1 h2 h3 hc ih =>
    simp only [noTwice] at hn
    split at hn
    · cases hn
    · rename_i hm
      have hm := hasNat_mem hm
      have ih := ih hn
      have far : ∀ (j : Nat) (o : Hand) (a a' : Addr), os[j]? = some o → o.1 = some a → (ι r).1 = some a' → a'.block ≠ a.block := fun j o a a' h4 h5 h6 h7 => by
        obtain ⟨r', g', h8, h9, h10, _, h12⟩ := hc.at j o a h4 h5
        have := hs.apart r r' g g' a' a h1 h9 h2 h10 h6 h12 h7
        subst this
        exact hm h8
      intro i j o o' a a' h4 h5 h6 h7 h8
      cases i with
      | zero =>
        simp at h4
        subst h4
        cases j with
        | zero => rfl
        | succ j => exact absurd h8 (far j o' a' a (by simpa using h5) h7 h6)
      | succ i =>
        cases j with
        | zero =>
          simp at h5
          subst h5
          exact absurd h8.symm (far i o a a' (by simpa using h4) h6 h7)
        | succ j => rw [ih i j o o' a a' (by simpa using h4) (by simpa using h5) h6 h7 h8]
  | @skip ks os hc ih =>
    have ih := ih hn
    intro i j o o' a a' h4 h5 h6 h7 h8
    cases i with
    | zero => simp at h4; subst h4; cases h6
    | succ i =>
      cases j with
      | zero => simp at h5; subst h5; cases h7
      | succ j => rw [ih i j o o' a a' (by simpa using h4) (by simpa using h5) h6 h7 h8]
theorem resAll_rel (hs : Sim cx ι st ts w) : ∀ {rs : List RT} {vs : List Val} {us : List Value} {x : dens (rs.map RT.den)} {ks : List Nat}, All2 (VR (CRs cx ι st w)) vs us → resAll st rs vs = some (x, ks) →
    ∃ os, ResR w (Rdb cx w ι st.σ) rs x us os ∧ Corr ι st.σ ks os
  | [], [], _, x, ks, .nil, he => by
    simp only [resAll] at he
    cases he
    exact ⟨[], ⟨rfl, rfl⟩, .nil⟩
  | [], _ :: _, _, _, _, _, he => by simp [resAll] at he
  | _ :: _, [], _, _, _, _, he => by simp [resAll] at he
  | r :: rs, v :: vs, u :: us, x, ks, .cons h1 h2, he => by
    simp only [resAll] at he
    split at he
    · rename_i y k1 hd1
      split at he
      · rename_i z k2 hr
        cases he
        obtain ⟨os, h3, h4⟩ := resAll_rel hs h2 hr
        rw [app_eq]
        have e1 : hd (cons y z) = y := hd_cons y z
        have e2 : tl (cons y z) = z := tl_cons y z
        cases r with
        | rd e fr =>
          cases v with
          | v c =>
            cases c with
            | one c =>
              simp only [resD] at hd1
              split at hd1
              · rename_i c' hc
                split at hd1
                · rename_i q hq hf
                  cases hd1
                  have h5 : CRs cx ι st w c' u := off_rel hs h1 hc
                  have h6 := dec1_rel (fr := fr) hq (.cons h5 .nil) (fun hh => by rw [hh] at hf; exact hf)
                  exact ⟨os, ⟨u, us, rfl, by rw [e1]; exact h6, by rw [e2]; exact h3⟩, h4⟩
                · cases hd1
              · cases hd1
            | agg cs => simp [resD] at hd1
          | _ => simp [resD] at hd1
        | ag e fr =>
          cases v with
          | v c =>
            cases c with
            | agg cs =>
              simp only [resD] at hd1
              split at hd1
              · rename_i c' hc
                split at hd1
                · rename_i q hq hf
                  cases hd1
                  obtain ⟨vs', rfl, h7⟩ := h1
                  have h5 := offL_rel hs h7 hc
                  have h6 := dec1_rel (fr := fr) hq h5 (fun hh => by rw [hh] at hf; exact hf)
                  exact ⟨os, ⟨vs', us, rfl, by rw [e1]; exact h6, by rw [e2]; exact h3⟩, h4⟩
                · cases hd1
              · cases hd1
            | one c => simp [resD] at hd1
          | _ => simp [resD] at hd1
        | ow t e pre =>
          have own : ∀ {r' : Nat} {l : List e.den} (n : Nat), live st.σ r' ⟨t, e, l, true, true⟩ → n ≤ l.length → OwnR w (Rdb cx w ι st.σ true) t e (l.take n) (ι r') := fun {r' l} n hl hn => by
            obtain ⟨xs, h5, h6, _⟩ := (hs.regs r' _ hl).1 rfl
            refine ⟨xs.take (n * e.size), h5.take n, ?_⟩
            have hlen : (l.take n).length = n := by rw [List.length_take, Nat.min_eq_left hn]
            rw [hlen]
            exact ownsRow_take h6 hn
          have whole : ∀ {r' : Nat} {l : List e.den}, live st.σ r' ⟨t, e, l, true, true⟩ → OwnR w (Rdb cx w ι st.σ true) t e l (ι r') := fun {r' l} hl => by
            have := own l.length hl (Nat.le_refl _)
            rwa [List.take_of_length_le (Nat.le_refl _)] at this
          cases v with
          | v c =>
            cases c with
            | one c =>
              cases c with
              | emp =>
                cases pre with
                | false =>
                  simp only [resD] at hd1
                  cases hd1
                  have h5 : u = .slice none 0 0 := h1
                  subst h5
                  refine ⟨(none, 0) :: os, ⟨(none, 0), us, os, ?_, rfl, ?_, by rw [e2]; exact h3⟩, .skip h4⟩
                  · rw [e1]; rfl
                  · rw [e1]; exact ⟨[], rfl, World.ownsRow_nil _ _ _ _⟩
                | true =>
                  simp only [resD] at hd1
                  cases hd1
                  have h5 : u = .slice none 0 0 := h1
                  subst h5
                  refine ⟨(none, 0) :: os, ⟨(none, 0), us, os, ?_, rfl, ?_, ?_, by rw [e2]; exact h3⟩, .skip h4⟩
                  · rw [e1]
                  · rw [e1]; exact Nat.le_refl _
                  · rw [e1]; exact ⟨[], rfl, World.ownsRow_nil _ _ _ _⟩
              | ref r' s =>
                cases pre with
                | false =>
                  simp only [resD] at hd1
                  split at hd1
                  · rename_i t' e' l hg
                    split at hd1
                    · rename_i hte
                      obtain ⟨rfl, rfl⟩ := hte
                      have hl := reg_eq.1 hg
                      have hv := h1.2 _ hl
                      cases s with
                      | all =>
                        simp only at hd1
                        cases hd1
                        refine ⟨ι r' :: os, ⟨ι r', us, os, ?_, rfl, ?_, by rw [e2]; exact h3⟩, .cons hl rfl rfl h4⟩
                        · rw [e1]; exact congrArg (· :: us) hv
                        · rw [e1]; exact whole hl
                      | pre n =>
                        simp only at hd1
                        cases hd1
                        obtain ⟨hn, rfl⟩ := hv
                        refine ⟨ι r' :: os, ⟨ι r', us, os, ?_, rfl, ?_, by rw [e2]; exact h3⟩, .cons hl rfl rfl h4⟩
                        · rw [e1]
                          have : (preL l n).length = n := by unfold preL; rw [List.length_take, Nat.min_eq_left hn]
                          show _ = Value.slice _ (preL l n).length _ :: us
                          rw [this]
                        · rw [e1]; exact own n hl hn
                      | sub o n => simp at hd1
                    · cases hd1
                  · cases hd1
                | true =>
                  cases s with
                  | pre n =>
                    simp only [resD] at hd1
                    split at hd1
                    · rename_i t' e' l hg
                      split at hd1
                      · rename_i hte
                        obtain ⟨rfl, rfl⟩ := hte
                        have hl := reg_eq.1 hg
                        obtain ⟨hn, rfl⟩ := h1.2 _ hl
                        cases hd1
                        refine ⟨ι r' :: os, ⟨ι r', us, os, ?_, rfl, ?_, ?_, by rw [e2]; exact h3⟩, .cons hl rfl rfl h4⟩
                        · rw [e1]
                        · rw [e1]; exact hn
                        · rw [e1]; exact whole hl
                      · cases hd1
                    · cases hd1
                  | all =>
                    simp only [resD] at hd1
                    split at hd1
                    · rename_i t' e' l hg
                      split at hd1
                      · rename_i hte
                        obtain ⟨rfl, rfl⟩ := hte
                        have hl := reg_eq.1 hg
                        have hv := h1.2 _ hl
                        have hv : u = .slice (ι r').1 l.length (ι r').2 := hv
                        subst hv
                        cases hd1
                        refine ⟨ι r' :: os, ⟨ι r', us, os, ?_, rfl, ?_, ?_, by rw [e2]; exact h3⟩, .cons hl rfl rfl h4⟩
                        · rw [e1]; rfl
                        · rw [e1]; exact Nat.le_refl _
                        · rw [e1]; exact whole hl
                      · cases hd1
                    · cases hd1
                  | _ => simp [resD] at hd1
              | _ => cases pre <;> simp [resD] at hd1
            | agg cs => cases pre <;> simp [resD] at hd1
          | _ => cases pre <;> simp [resD] at hd1
      · cases he
    · cases he
theorem backD_rel (hs : Sim cx ι st ts w) {ks : List Nat} : ∀ (ps : List PT) {x : Args ps} {y : dens (backs ps)} {cs : List Cell} {hs' : List Hand} {vs : List Value} {w0 : World} {N0 : Nat → Prop}, ArgsR w0 N0 ps x vs hs' → All2 (CRs cx ι st w) cs (hidV ps x hs') → backD st ks ps cs = some y → BackR w (fun _ => True) ps x y hs'
  | [], _, _, _, _, _, _, _, _, _, _ => trivial
  | .rd _ :: ps, _, _, _, _, _, _, _, ⟨_, _, _, _, ha⟩, hc, he => backD_rel hs ps ha hc he
  | .ag _ :: ps, _, _, _, _, _, _, _, ⟨_, _, _, _, ha⟩, hc, he => backD_rel hs ps ha hc he
  | .fn _ :: ps, _, _, _, _, _, _, _, ⟨_, _, ha⟩, hc, he => backD_rel hs ps ha hc he
  | .rp _ _ :: ps, _, _, _, _, _, _, _, ⟨_, _, _, _, _, ha⟩, hc, he => backD_rel hs ps ha hc he
  | .ow _ _ true false :: ps, _, _, _, _, _, _, _, ⟨_, _, _, _, rfl, _, ha⟩, hc, he => backD_rel hs ps ha hc he
  | .ow _ _ true true :: ps, _, _, _, _, _, _, _, ⟨_, _, _, _, rfl, _, _, ha⟩, hc, he => backD_rel hs ps ha hc he
  | .ow t e false false :: ps, x, y, cs, _, _, _, _, ⟨h, _, hr, _, rfl, _, ha⟩, hc, he => by
    match cs, hc with
    | c :: cs, .cons h1 h2 =>
      cases c with
      | ref r s =>
        cases s with
        | all =>
          simp only [backD] at he
          split at he
          · rename_i t' e' l fr hg _
            split at he
            · rename_i hte
              obtain ⟨rfl, rfl⟩ := hte
              split at he
              · rename_i y' hy
                cases he
                have hl := reg_eq.1 hg
                have hv := h1.2 _ hl
                simp only [SlR, Value.slice.injEq] at hv
                obtain ⟨xs, h5, h6, _⟩ := (hs.regs r _ hl).1 rfl
                refine ⟨?_, ?_, ?_⟩
                · rw [hd_cons]; exact hv.2.1.symm
                · rw [hd_cons]
                  refine ⟨xs, h5.mono (fun _ _ => trivial) (fun _ _ => rfl), ?_⟩
                  rw [hv.1, hv.2.2]
                  exact h6
                · rw [tl_cons]; exact backD_rel hs ps ha h2 hy
              · cases he
            · cases he
          · cases he
        | _ => simp [backD] at he
      | _ => simp [backD] at he
  | .ow t e false true :: ps, x, y, cs, _, _, _, _, ⟨h, _, hr, _, rfl, _, _, ha⟩, hc, he => by
    match cs, hc with
    | c :: cs, .cons h1 h2 =>
      cases c with
      | ref r s =>
        cases s with
        | all =>
          simp only [backD] at he
          split at he
          · rename_i t' e' l fr hg _
            split at he
            · rename_i hte
              obtain ⟨rfl, rfl⟩ := hte
              split at he
              · rename_i y' hy
                cases he
                have hl := reg_eq.1 hg
                have hv := h1.2 _ hl
                simp only [SlR, Value.slice.injEq] at hv
                obtain ⟨xs, h5, h6, _⟩ := (hs.regs r _ hl).1 rfl
                refine ⟨?_, ?_, ?_⟩
                · rw [hd_cons]; exact hv.2.1.symm
                · rw [hd_cons]
                  refine ⟨xs, h5.mono (fun _ _ => trivial) (fun _ _ => rfl), ?_⟩
                  rw [hv.1, hv.2.2]
                  exact h6
                · rw [tl_cons]; exact backD_rel hs ps ha h2 hy
              · cases he
            · cases he
          · cases he
        | _ => simp [backD] at he
      | _ => simp [backD] at he
  | .op t e :: ps, x, y, cs, _, _, _, _, ⟨a, c0, _, hr, _, rfl, _, ha⟩, hc, he => by
    match cs, hc with
    | c :: cs, .cons h1 h2 =>
      cases c with
      | ref r s =>
        cases s with
        | all =>
          simp only [backD] at he
          split at he
          · rename_i t' e' x' fr hg _
            split at he
            · rename_i hte
              obtain ⟨rfl, rfl⟩ := hte
              split at he
              · rename_i y' hy
                cases he
                have hl := reg_eq.1 hg
                have hv := h1.2 _ hl
                simp only [SlR, Value.slice.injEq] at hv
                obtain ⟨xs, h5, h6, _⟩ := (hs.regs r _ hl).1 rfl
                refine ⟨?_, ?_⟩
                · rw [hd_cons]
                  refine ⟨xs, h5.mono (fun _ _ => trivial) (fun _ _ => rfl), ?_⟩
                  rw [hv.1, hv.2.2]
                  exact h6
                · rw [tl_cons]; exact backD_rel hs ps ha h2 hy
              · cases he
            · cases he
          · cases he
        | _ => simp [backD] at he
      | _ => simp [backD] at he
theorem joinD_eq : ∀ (rs : List RT) {b : List Type} (x : dens (rs.map RT.den)) (y : dens b), joinD rs x y = join (rs.map RT.den) x y
  | [], _, _, _ => rfl
  | r :: rs, b, x, y => by
    show cons (hd x) (joinD rs (tl x) y) = cons (hd x) (join (rs.map RT.den) (tl x) y)
    rw [joinD_eq rs]
/-- The value of a result variable. -/
def resF (ts : Array Value) : ResultVar → Sem Value
  | .tmp t => pure (ts.getD t undef)
  | .cell a t => do loadVar t (← asAddr (ts.getD a undef))
section
variable {P : Program} {E : Env}
theorem varV_rel (hT : TOk P E) (hs : Sim cx ι st ts w) {t : TypeId} {v0 : Val} {u0 : Value} (hv : VR (CRs cx ι st w) v0 u0) (hne : varV E.T t st v0 ≠ .dead) :
    ∃ u, (do loadVar t (← asAddr u0) : Sem Value).run P w = .ok u w ∧ VR (CRs cx ι st w) (varV E.T t st v0) u := by
  unfold varV at hne ⊢
  split at hne
  · rename_i rr i j ti hti
    split at hne
    · rename_i g hg
      split at hne
      · rename_i hb0
        have hb := Nat.le_of_ble_eq_true hb0
        have hl := reg_eq.1 hg
        obtain ⟨A, hA, hi, hp⟩ := hv.2 g hl
        obtain ⟨A', us, hA', hrel, hsz, hcells⟩ : ∃ A' us, (ι rr).1 = some A' ∧ All2 (CRs cx ι st w) (regC g i) us ∧ us.length = g.e.size ∧ ∀ k u, us[k]? = some u → w.cell? (A'.add (i * g.e.size + k)) = some u := by
          unfold regC
          split
          · rename_i rcs hvar
            obtain ⟨n, A', us, hn, hlen1, _, hA', hrel, hsz, hcells0⟩ := (hs.regs rr g hl).var hvar
            obtain rfl : i = 0 := by omega
            refine ⟨A', us, hA', hrel, by rw [hn]; exact hsz, fun k u hu => ?_⟩
            rw [Nat.zero_mul, Nat.zero_add]
            exact hcells0 k u hu
          · obtain ⟨A', us, hA', hrd, hcells⟩ := (hs.regs rr g hl).at i hi
            have hrel := enc_rel hrd
            rw [← rd_get hi] at hrel
            exact ⟨A', us, hA', hrel, hrd.size, hcells⟩
        have : A' = A := Option.some.inj (hA'.symm.trans hA)
        subst this
        obtain ⟨inf, z, h1, h2, _, _⟩ := hT.e hti
        obtain ⟨d, hud, hagg, _⟩ := hT.d hti
        have hsub : All2 (CRs cx ι st w) (firsts ti.e.size (lasts j (regC g i))) ((us.drop j).take ti.e.size) := by
          rw [firsts_eq, lasts_eq]
          exact (hrel.drop j).take _
        have hlen : ((us.drop j).take ti.e.size).length = ti.e.size := by rw [List.length_take, List.length_drop, hsz]; omega
        have hc : ∀ k u, ((us.drop j).take ti.e.size)[k]? = some u → w.cell? ((A'.add (i * g.e.size + j)).add k) = some u := fun k u hu => by
          rw [add_add', Nat.add_assoc]
          refine hcells (j + k) u ?_
          rw [List.getElem?_take] at hu
          split at hu
          · rwa [List.getElem?_drop] at hu
          · cases hu
        split at hne
        · rename_i hag
          try rw [hag]
          refine ⟨.agg ((us.drop j).take ti.e.size).toArray, ?_, ⟨_, rfl, by simpa using hsub⟩⟩
          have hrun := run_loadCells_list (P := P) w (A'.add (i * g.e.size + j)) _ hc
          rw [hlen] at hrun
          rw [hag] at hagg
          simp [hp, asAddr, loadVar, run_isAgg hud, hagg, sizeOf, typeInfo, h1, h2, hrun]
        · rename_i c hag hcs
          rw [hcs] at hsub
          obtain ⟨u, hu, hcr⟩ := hsub.one
          have h0 : w.cell? (A'.add (i * g.e.size + j)) = some u := by
            have := hc 0 u (by rw [hu]; rfl)
            simpa [Addr.add] using this
          rw [hag] at hagg
          exact ⟨u, by simp [hp, asAddr, loadVar, run_isAgg hud, hagg, h0], hcr⟩
        · exact absurd rfl hne
      · exact absurd rfl hne
    · exact absurd rfl hne
  · exact absurd rfl hne
theorem val_rel (hT : TOk P E) (hs : Sim cx ι st ts w) (r : ResultVar) (hne : valOf E.T st r ≠ .dead) : ∃ u, (resF ts r).run P w = .ok u w ∧ VR (CRs cx ι st w) (valOf E.T st r) u := by
  have tmp : ∀ t, VR (CRs cx ι st w) (match nth st.ts t with | some v => v | none => .dead) (ts.getD t undef) := fun t => by
    split
    · rename_i v hv
      rw [nth_eq] at hv
      obtain ⟨u, h1, h2⟩ := hs.tmps t v hv
      have : ts.getD t undef = u := by simp [Array.getD_eq_getD_getElem?, h1]
      rw [this]
      exact h2
    · trivial
  cases r with
  | tmp t => exact ⟨_, by simp [resF], tmp t⟩
  | cell a t => exact varV_rel hT hs (tmp a) hne
theorem vals_rel (hT : TOk P E) (hs : Sim cx ι st ts w) : ∀ rs : List ResultVar, (∀ r ∈ rs, valOf E.T st r ≠ .dead) → ∃ us, (rs.mapM (resF ts)).run P w = .ok us w ∧ All2 (VR (CRs cx ι st w)) (vals E.T st rs) us
  | [], _ => ⟨[], by simp, .nil⟩
  | r :: rs, h => by
    obtain ⟨u, h1, h2⟩ := val_rel hT hs r (h r (List.mem_cons_self ..))
    obtain ⟨us, h3, h4⟩ := vals_rel hT hs rs (fun r' hr => h r' (List.mem_cons_of_mem _ hr))
    exact ⟨u :: us, by simp [List.mapM_cons, h1, h3], .cons h2 h4⟩
theorem vals_some {T : Tab} {st' : State} : ∀ {rs : List ResultVar} {ps : List RT} {x : dens (ps.map RT.den)} {ks : List Nat}, resAll st' ps (vals T st rs) = some (x, ks) → ∀ r ∈ rs, valOf T st r ≠ .dead
  | [], _, _, _, _ => fun _ h => by cases h
  | r :: rs, [], _, _, h => by simp [vals, resAll] at h
  | r :: rs, p :: ps, x, ks, h => by
    simp only [vals, resAll] at h
    split at h
    · rename_i y k1 h1
      split at h
      · rename_i z k2 h2
        intro r' hr
        rcases List.mem_cons.1 hr with rfl | hr
        · intro hd
          rw [hd] at h1
          cases p <;> rename_i b <;> (try cases b) <;> simp [resD] at h1
        · exact vals_some h2 r' hr
      · cases h
    · cases h
theorem unpk_some {T : Tab} {st0 st' : State} : ∀ {g : List Nat} {rs : List ResultVar} {vs' : List Val} {ps : List RT} {x : dens (ps.map RT.den)} {ks : List Nat}, unpk g (vals T st rs) = some vs' → resAll st' ps vs' = some (x, ks) → ∀ r ∈ rs, valOf T st r ≠ .dead
  | [], rs, vs', ps, x, ks, hu, h => by
    simp only [unpk, Option.some.injEq] at hu
    subst hu
    exact vals_some h
  | _ :: _, [], _, _, _, _, _, _ => fun _ h => by cases h
  | 0 :: g, r :: rs, vs', ps, x, ks, hu, h => by
    simp only [vals, unpk] at hu
    split at hu
    · rename_i q hq
      cases hu
      cases ps with
      | nil => simp [resAll] at h
      | cons p ps =>
        simp only [resAll] at h
        split at h
        · rename_i y k1 h1
          split at h
          · rename_i z k2 h2
            intro r' hr
            rcases List.mem_cons.1 hr with rfl | hr
            · intro hd
              rw [hd] at h1
              cases p <;> rename_i b <;> (try cases b) <;> simp [resD] at h1
            · exact unpk_some (st0 := st0) hq h2 r' hr
          · cases h
        · cases h
    · cases hu
  | (n + 1) :: g, r :: rs, vs', ps, x, ks, hu, h => by
    simp only [vals] at hu
    cases hv : valOf T st r with
    | v c =>
      rw [hv] at hu
      cases c with
      | agg cs =>
        simp only [unpk] at hu
        split at hu
        · rename_i q hb hq
          cases hu
          have hdrop : ∃ (ps' : List RT) (x' : dens (ps'.map RT.den)) (ks' : List Nat), resAll st' ps' q = some (x', ks') := by
            have : ∀ (l : List Val) (ps : List RT) (x : dens (ps.map RT.den)) (ks : List Nat), resAll st' ps (l ++ q) = some (x, ks) → ∃ (ps' : List RT) (x' : dens (ps'.map RT.den)) (ks' : List Nat), resAll st' ps' q = some (x', ks') := by
              intro l
              induction l with
              | nil => intro ps x ks h; exact ⟨ps, x, ks, h⟩
              | cons a l ih =>
                intro ps x ks h
                cases ps with
                | nil => simp [resAll] at h
                | cons p ps =>
                  simp only [List.cons_append, resAll] at h
                  split at h
                  · split at h
                    · rename_i z k2 h2
                      exact ih ps z k2 h2
                    · cases h
                  · cases h
            rw [app_eq] at h
            exact this _ _ _ _ h
          obtain ⟨ps', x', ks', h'⟩ := hdrop
          intro r' hr
          rcases List.mem_cons.1 hr with rfl | hr
          · intro hd
            rw [hd] at hv
            cases hv
          · exact unpk_some (st0 := st0) hq h' r' hr
        · cases hu
      | one c => simp [unpk] at hu
    | _ => rw [hv] at hu; simp [unpk] at hu
theorem results_run {fn : Func} {us : List Value} (h : (fn.results.toList.mapM (resF ts)).run P w = .ok us w) : (results fn ts).run P w = .ok (packV us) w := by
  have h' : fn.results = fn.results.toList.toArray := by rw [Array.toArray_toList]
  unfold results
  rw [h', List.mapM_toArray]
  have e2 : ∀ (f : ResultVar → Sem Value) (l : List ResultVar), (∀ r, f r = resF ts r) → l.mapM f = l.mapM (resF ts) := fun f l h => by rw [funext h]
  rw [e2 _ _ (fun r => by cases r <;> rfl)]
  simp only [Sem.run_bind, Sem.run_map, h]
  match us with
  | [] => simp [packV]
  | [t] => simp [packV]
  | _ :: _ :: _ => simp [packV]
end
end
/-- The end of a function. -/
theorem fin_post {fn : Func} {g : List Nat} {ps : List PT} {rs : List RT} {x : Args ps} {y : Res ps rs} {w w' : World} {N : Nat → Prop} {hs : List Hand} {vs : List Value} {ι : Lay} {st : State} {ts : Array Value} {P : Program}
    {E : Env} (hT : TOk P E) (hsim : Sim (cxOf ps x w N hs) ι st ts w') (ha : ArgsR w N ps x vs hs) (h : finE E.T fn g ps rs st = some y) : ∃ v, (results fn ts).run P w' = .ok v w' ∧ Post g ps rs x y w N hs v w' := by
  unfold finE at h
  split at h
  case h_2 => cases h
  rename_i vsu hu
  split at h
  · rename_i st' hl
    split at h
    · rename_i x' ks hr
      split at h
      · rename_i y' hn hb
        cases h
        obtain ⟨us0, hrun, hvr0⟩ := vals_rel hT hsim _ (unpk_some (st0 := st) hu hr)
        obtain ⟨us, rfl, hvr⟩ := unpk_rel hu hvr0
        refine ⟨_, results_run hrun, ?_⟩
        obtain ⟨h1, h2⟩ := lockR_sim hsim hvr hl
        obtain ⟨os, h3, h4⟩ := resAll_rel h1 h2 hr
        have hat := h4.at
        refine ⟨_, os, rfl, h1.keep, h4.apart h1 hn, fun i o a h5 h6 => ?_, ?_, ?_⟩
        · obtain ⟨r, g, _, h7, h8, h9, h10⟩ := hat i o a h5 h6
          obtain ⟨_, _, _, h11⟩ := (h1.regs r g h7).1 h8
          exact (h11.1 a h10).1 h9
        · rw [joinD_eq, split_join]
          refine h3.mono (fun fr k hk => ⟨hk.1, fun i o a h5 h6 h7 => hk.2.1 ?_, hk.2.2⟩) rs
          obtain ⟨r, g, _, h7', h8, h9, h10⟩ := hat i o a h5 h6
          exact ⟨r, g, a, h7', h8, h10, h7⟩
        · rw [joinD_eq, split_join]
          exact backD_rel h1 ps ha h1.hid hb
      · cases h
    · cases h
  · cases h
/-- What the reader tells of a function holds of it. -/
theorem run_calls {P : Program} {E : Env} {A : Ann} {n : Nat} {f : FuncId} {fn : Func} {c : Con} (hT : TOk P E) (hm : P.follows .mixedOrders = true) {G : Ground} (hC : ∀ cx, Gok G cx → CallOk cx P E) (hf : P.funcs[f]? = some fn) (hps : okPs c.ps = true)
    (hok : OkAll E A n (partsOf A (bodyOf fn))) (hrun : ∀ x, runE E A n fn c.pg c.rg c.ps c.rs x = c.f x)
    (x : Args c.ps) (y : Res c.ps c.rs) (hy : c.f x = some y) (w : World) (N : Nat → Prop) (vs : List Value) (hs : List Hand) (ha : ArgsR w N c.ps x vs hs) (hap : Apart hs) (hN : ∀ k, N k → k < w.heap.size ∧ ¬ inM hs k) (hg : G.is w N) :
    (∃ body, fn.body = some body) ∧ Calls P f (pkV c.pg vs).toArray w fun e w' => ∃ v, e = .returned v ∧ Post c.rg c.ps c.rs x y w N hs v w' := by
  have h := (hrun x).trans hy
  unfold runE at h
  split at h
  · rename_i body hb
    obtain ⟨ι, hsim⟩ := entry_sim hps ha hap hN
    refine ⟨⟨body, hb⟩, calls_of_wp hf hb ?_⟩
    have hsim := Sim.pk (ts := (entry c.ps x).ts) (hid := (entry c.ps x).hid) (σ := (entry c.ps x).σ) c.pg hsim
    have hpad := Sim.pad hsim (fn.ntmps - (pkV c.pg vs).toArray.size)
    have hcount : count (pkT c.pg (entry c.ps x).ts) = (pkV c.pg vs).toArray.size := by rw [count_eq, hsim.size]
    dsimp only at h
    rw [hcount] at h
    have hall : ∀ l : List (Bool × Sub × Code), OkAll E A n l → ∀ p ∈ l, OkPart E A n p := by
      intro l
      induction l with
      | nil => intro _ p hp; cases hp
      | cons q l ih =>
        intro hq p hp
        rcases List.mem_cons.1 hp with rfl | hp
        · exact hq.1
        · exact ih hq.2 p hp
    have hbody : bodyOf fn = body := by unfold bodyOf; rw [hb]
    rw [hbody] at hok
    refine exec_sound hT hm (hC _ ⟨hg, hN⟩) body (hall _ hok) (fun c a w ⟨_, v, hv, _⟩ => by cases hv) hpad rfl (K := _) ?_ h
    intro e st' ι' a' w' hs' hd' hk
    have fin : finE E.T fn c.rg c.ps c.rs st' = some y → a'.defers = [] ∧ ∃ v, (results fn a'.tmps).run P w' = .ok v w' ∧ ∃ u, Ending.returned v = .returned u ∧ Post c.rg c.ps c.rs x y w N hs u w' := fun hfin => by
      obtain ⟨v, h1, h2⟩ := fin_post (P := P) hT hs' ha hfin
      exact ⟨hd', v, h1, v, rfl, h2⟩
    cases e with
    | normal => exact fin hk
    | exit id => cases hk
    | ret => exact fin hk
  · cases h
theorem run_sound {P : Program} {E : Env} {A : Ann} {n : Nat} {f : FuncId} {fn : Func} {c : Con} (hT : TOk P E) (hm : P.follows .mixedOrders = true) {G : Ground} (hC : ∀ cx, Gok G cx → CallOk cx P E) (hf : P.funcs[f]? = some fn) (hname : (fn.name == "runtime.NumGoroutine") = false) (hps : okPs c.ps = true) (hrs : okRs c.alias c.rs = true)
    (hok : OkAll E A n (partsOf A (bodyOf fn))) (hrun : ∀ x, runE E A n fn c.pg c.rg c.ps c.rs x = c.f x) : Sound G P f c := by
  refine ⟨hps, hrs, fun x y hy w N vs hs ha hap hN hg => ?_⟩
  obtain ⟨⟨body, hb⟩, h⟩ := run_calls hT hm hC hf hps hok hrun x y hy w N vs hs ha hap hN hg
  refine .inl ⟨?_, h⟩
  have h1 : fn.name ≠ "runtime.NumGoroutine" := by simpa using hname
  simp [callFunc, hf, h1, hb]
end Go.Proofs.Ytpfjneaoankllaa.Ev

/-! A call, by the callee's contract. -/
namespace Go.Proofs.Ytpfjneaoankllaa.Ev
open Go.RowKit
section
variable {cx : Cx} {ι ι' : Lay} {st st1 st2 : State} {ts : Array Value} {w w' : World} {N : Nat → Prop}
/-- What a cell that leads to no row holds. -/
def CRn (w : World) (N : Nat → Prop) : Cell → Value → Prop
  | .int k n, v => v = .int k n
  | .bool b, v => v = .bool b
  | .str s, v => v = .string s
  | .emp, v => v = .slice none 0 0
  | .lst t e l _, v => RD w N (.slice t e) l [v]
  | .fn f, v => v = .func (.func f) #[] #[]
  | _, _ => False
theorem decn_rel : ∀ {e : Ty} {cs rest : List Cell} {x : e.den} {vs : List Value}, dec e cs = some (x, rest) → All2 (CRn w N) cs vs →
    ∃ v1 v2, vs = v1 ++ v2 ∧ RD w N e x v1 ∧ All2 (CRn w N) rest v2
  | .int k, cs, rest, x, vs, h, hr => by
    cases hr with
    | nil => simp [dec] at h
    | cons h1 h2 =>
      rename_i c v l m
      cases c <;> simp [dec] at h
      obtain ⟨rfl, rfl, rfl⟩ := h
      exact ⟨[v], m, rfl, by cases h1; rfl, h2⟩
  | .bool, cs, rest, x, vs, h, hr => by
    cases hr with
    | nil => simp [dec] at h
    | cons h1 h2 =>
      rename_i c v l m
      cases c <;> simp [dec] at h
      obtain ⟨rfl, rfl⟩ := h
      exact ⟨[v], m, rfl, by cases h1; rfl, h2⟩
  | .str, cs, rest, x, vs, h, hr => by
    cases hr with
    | nil => simp [dec] at h
    | cons h1 h2 =>
      rename_i c v l m
      cases c <;> simp [dec] at h
      obtain ⟨rfl, rfl⟩ := h
      exact ⟨[v], m, rfl, by cases h1; rfl, h2⟩
  | .unit, cs, rest, x, vs, h, hr => by
    simp [dec] at h
    subst h
    exact ⟨[], vs, rfl, rfl, hr⟩
  | .pair a b, cs, rest, x, vs, h, hr => by
    unfold dec at h
    split at h
    · rename_i x1 r1 h1
      split at h
      · rename_i x2 r2 h2
        simp only [Option.some.injEq, Prod.mk.injEq] at h
        obtain ⟨rfl, rfl⟩ := h
        obtain ⟨v1, v2, rfl, h3, h4⟩ := decn_rel h1 hr
        obtain ⟨v3, v4, rfl, h6, h7⟩ := decn_rel h2 h4
        exact ⟨v1 ++ v3, v4, by rw [List.append_assoc], ⟨v1, v3, rfl, h3, h6⟩, h7⟩
      · cases h
    · cases h
  | .slice t e, cs, rest, x, vs, h, hr => by
    cases hr with
    | nil => simp [dec] at h
    | cons h1 h2 =>
      rename_i c v l m
      cases c <;> simp [dec] at h
      · obtain ⟨rfl, rfl⟩ := h
        exact ⟨[v], m, rfl, by cases h1; exact ⟨none, 0, rfl, Nat.le_refl _, fun i hi => by simp at hi⟩, h2⟩
      · rename_i t' e' l' fr'
        obtain ⟨⟨he, hx⟩, rfl⟩ := h
        subst he
        subst hx
        exact ⟨[v], m, rfl, h1, h2⟩
theorem decn1_rel {e : Ty} {cs : List Cell} {x : e.den} {vs : List Value} (h : dec1 e cs = some x) (hr : All2 (CRn w N) cs vs) : RD w N e x vs := by
  unfold dec1 at h
  split at h
  · rename_i y hy
    obtain rfl := Option.some.inj h
    obtain ⟨v1, v2, rfl, h1, h2⟩ := decn_rel hy hr
    cases h2
    simpa using h1
  · cases h
/-- A row of the call's own, as one that is read. -/
theorem own_rd {A : Option Addr} {c : Nat} {g : Reg} {N' : Nat → Prop} (hown : g.own = true) (h : RegR cx w ι st.σ A c g) (hN : ∀ k, Rdb cx w ι st.σ g.fr k → N' k) (hb : ∀ a, A = some a → N' a.block) : RD w N' (.slice g.t g.e) g.l [.slice A g.l.length c] := by
  obtain ⟨xs, h1, h2, h3⟩ := h.1 hown
  refine ⟨A, c, rfl, h.cap, fun i hi => ?_⟩
  obtain ⟨a, us, h4, h5, h6⟩ := h.at i hi
  exact ⟨a, us, h4, hb a h4, h5.mono hN (fun _ _ => rfl), h6⟩
/-- What is away: rows ks. -/
def rowsOf : List Mode → List Val → List Nat
  | .mt :: ms, .v (.one (.ref r _)) :: vs => r :: rowsOf ms vs
  | .mt :: ms, .v (.one (.ptr r _ _)) :: vs => r :: rowsOf ms vs
  | .tk :: ms, .v (.one (.ref r _)) :: vs => r :: rowsOf ms vs
  | .rd :: ms, _ :: vs => rowsOf ms vs
  | .rp :: ms, _ :: vs => rowsOf ms vs
  | _, _ => []
theorem takeA_spec : ∀ {ms : List Mode} {vs : List Val} {st st2 : State}, takeA st ms vs = some st2 →
    (rowsOf ms vs).Nodup ∧ (∀ r ∈ rowsOf ms vs, ∃ g, live st.σ r g ∧ g.own = true) ∧ st2.σ.length = st.σ.length ∧ (∀ r g, live st2.σ r g ↔ live st.σ r g ∧ r ∉ rowsOf ms vs) ∧ st2.ts = st.ts ∧ st2.hid = st.hid
  | [], [], st, st2, h => by
    simp only [takeA] at h
    cases h
    exact ⟨List.nodup_nil, by simp [rowsOf], rfl, by simp [rowsOf], rfl, rfl⟩
  | .rd :: ms, v :: vs, st, st2, h => by
    simp only [takeA] at h
    have := takeA_spec h
    simpa [rowsOf] using this
  | .rp :: ms, v :: vs, st, st2, h => by
    simp only [takeA] at h
    have := takeA_spec h
    simpa [rowsOf] using this
  | .mt :: ms, .v (.one (.ref r s)) :: vs, st, st2, h => by
    simp only [takeA] at h
    split at h
    · rename_i t e l fr hg
      exact step (reg_eq.1 hg) rfl (takeA_spec h)
    · cases h
  | .mt :: ms, .v (.one (.ptr r i j)) :: vs, st, st2, h => by
    simp only [takeA] at h
    split at h
    · rename_i t e l fr hg
      exact step (reg_eq.1 hg) rfl (takeA_spec h)
    · cases h
  | .tk :: ms, .v (.one (.ref r s)) :: vs, st, st2, h => by
    simp only [takeA] at h
    split at h
    · rename_i t e l hg
      exact step (reg_eq.1 hg) rfl (takeA_spec h)
    · cases h
  | [], _ :: _, _, _, h => by simp [takeA] at h
  | .rd :: _, [], _, _, h => by simp [takeA] at h
  | .rp :: _, [], _, _, h => by simp [takeA] at h
  | .mt :: _, [], _, _, h => by simp [takeA] at h
  | .tk :: _, [], _, _, h => by simp [takeA] at h
  | .mt :: _, .v (.one (.int _ _)) :: _, _, _, h => by simp [takeA] at h
  | .mt :: _, .v (.one (.bool _)) :: _, _, _, h => by simp [takeA] at h
  | .mt :: _, .v (.one (.str _)) :: _, _, _, h => by simp [takeA] at h
  | .mt :: _, .v (.one .emp) :: _, _, _, h => by simp [takeA] at h
  | .mt :: _, .v (.one (.lst _ _ _ _)) :: _, _, _, h => by simp [takeA] at h
  | .mt :: _, .v (.one (.own _ _ _ _)) :: _, _, _, h => by simp [takeA] at h
  | .mt :: _, .v (.one (.optr _ _ _)) :: _, _, _, h => by simp [takeA] at h
  | .mt :: _, .v (.one (.fn _)) :: _, _, _, h => by simp [takeA] at h
  | .mt :: _, .v (.one .dead) :: _, _, _, h => by simp [takeA] at h
  | .mt :: _, .v (.agg _) :: _, _, _, h => by simp [takeA] at h
  | .mt :: _, .tup _ :: _, _, _, h => by simp [takeA] at h
  | .mt :: _, .dead :: _, _, _, h => by simp [takeA] at h
  | .mt :: _, .un :: _, _, _, h => by simp [takeA] at h
  | .tk :: _, .v (.one (.int _ _)) :: _, _, _, h => by simp [takeA] at h
  | .tk :: _, .v (.one (.bool _)) :: _, _, _, h => by simp [takeA] at h
  | .tk :: _, .v (.one (.str _)) :: _, _, _, h => by simp [takeA] at h
  | .tk :: _, .v (.one .emp) :: _, _, _, h => by simp [takeA] at h
  | .tk :: _, .v (.one (.lst _ _ _ _)) :: _, _, _, h => by simp [takeA] at h
  | .tk :: _, .v (.one (.own _ _ _ _)) :: _, _, _, h => by simp [takeA] at h
  | .tk :: _, .v (.one (.optr _ _ _)) :: _, _, _, h => by simp [takeA] at h
  | .tk :: _, .v (.one (.ptr _ _ _)) :: _, _, _, h => by simp [takeA] at h
  | .tk :: _, .v (.one (.fn _)) :: _, _, _, h => by simp [takeA] at h
  | .tk :: _, .v (.one .dead) :: _, _, _, h => by simp [takeA] at h
  | .tk :: _, .v (.agg _) :: _, _, _, h => by simp [takeA] at h
  | .tk :: _, .tup _ :: _, _, _, h => by simp [takeA] at h
  | .tk :: _, .dead :: _, _, _, h => by simp [takeA] at h
  | .tk :: _, .un :: _, _, _, h => by simp [takeA] at h
where
  step {ks : List Nat} {st st2 : State} {r : Nat} {g : Reg} (hl : live st.σ r g) (ho : g.own = true)
    (h : ks.Nodup ∧ (∀ r' ∈ ks, ∃ g, live (st.set r none).σ r' g ∧ g.own = true) ∧ st2.σ.length = (st.set r none).σ.length ∧ (∀ r' g, live st2.σ r' g ↔ live (st.set r none).σ r' g ∧ r' ∉ ks) ∧ st2.ts = st.ts ∧ st2.hid = st.hid) :
    (r :: ks).Nodup ∧ (∀ r' ∈ r :: ks, ∃ g, live st.σ r' g ∧ g.own = true) ∧ st2.σ.length = st.σ.length ∧ (∀ r' g, live st2.σ r' g ↔ live st.σ r' g ∧ r' ∉ r :: ks) ∧ st2.ts = st.ts ∧ st2.hid = st.hid := by
    obtain ⟨h1, h2, h3, h4, h5⟩ := h
    have hset : ∀ r' g', live (st.set r none).σ r' g' ↔ r' ≠ r ∧ live st.σ r' g' := fun r' g' => by
      rw [set_σ, live_set]
      simp
    refine ⟨List.nodup_cons.2 ⟨fun hm => ?_, h1⟩, fun r' hr => ?_, by rw [h3, set_σ]; simp, fun r' g' => ?_, h5⟩
    · obtain ⟨g', h6, _⟩ := h2 r hm
      exact ((hset r g').1 h6).1 rfl
    · rcases List.mem_cons.1 hr with rfl | hr
      · exact ⟨g, hl, ho⟩
      · obtain ⟨g', h6, h7⟩ := h2 r' hr
        exact ⟨g', ((hset r' g').1 h6).2, h7⟩
    · rw [h4, hset]
      simp only [List.mem_cons, not_or]
      exact ⟨fun ⟨⟨a, b⟩, c⟩ => ⟨b, a, c⟩, fun ⟨a, b, c⟩ => ⟨⟨b, a⟩, c⟩⟩
theorem lockA_sim : ∀ {ms : List Mode} {vs : List Val} {us : List Value} {st st' : State}, Sim cx ι st ts w → All2 (VR (CRs cx ι st w)) vs us → lockA st ms vs = some st' → Sim cx ι st' ts w ∧ On cx ι st.σ w ι st'.σ w ∧ All2 (VR (CRs cx ι st' w)) vs us
  | [], [], us, st, st', h, hv, he => by
    simp only [lockA] at he
    cases he
    exact ⟨h, On.refl, hv⟩
  | .mt :: ms, v :: vs, u :: us, st, st', h, .cons h1 h2, he => by
    simp only [lockA] at he
    obtain ⟨h3, h4, h5⟩ := lockA_sim h h2 he
    exact ⟨h3, h4, .cons (h1.imp fun _ _ => h4.cr) h5⟩
  | .tk :: ms, v :: vs, u :: us, st, st', h, .cons h1 h2, he => by
    simp only [lockA] at he
    obtain ⟨h3, h4, h5⟩ := lockA_sim h h2 he
    exact ⟨h3, h4, .cons (h1.imp fun _ _ => h4.cr) h5⟩
  | .rd :: ms, .v c :: vs, u :: us, st, st', h, .cons h1 h2, he => by
    simp only [lockA] at he
    split at he
    · rename_i cs hcs
      have h1' : CompR (CRs cx ι st w) c u := h1
      obtain ⟨h6, h7, _⟩ := embL_rel h (cells_rel h1' hcs) hcs
      obtain ⟨h3, h4, h5⟩ := lockA_sim h6 (h2.imp fun _ _ hh => hh.imp fun _ _ => h7.cr) he
      exact ⟨h3, h7.trans h4, .cons (h1.imp fun _ _ => (h7.trans h4).cr) h5⟩
    · cases he
  | [], _ :: _, _, _, _, _, _, he => by simp [lockA] at he
  | .mt :: _, [], _, _, _, _, _, he => by simp [lockA] at he
  | .tk :: _, [], _, _, _, _, _, he => by simp [lockA] at he
  | .rd :: _, [], _, _, _, _, _, he => by simp [lockA] at he
  | .rp :: _, [], _, _, _, _, _, he => by simp [lockA] at he
  | .rp :: _, _ :: _, _, _, _, _, _, he => by simp [lockA] at he
  | .rd :: _, .tup _ :: _, _, _, _, _, _, he => by simp [lockA] at he
  | .rd :: _, .dead :: _, _, _, _, _, _, he => by simp [lockA] at he
  | .rd :: _, .un :: _, _, _, _, _, _, he => by simp [lockA] at he
end
end Go.Proofs.Ytpfjneaoankllaa.Ev

/-! A call: its arguments. -/
namespace Go.Proofs.Ytpfjneaoankllaa.Ev
open Go.RowKit
section
variable {cx : Cx} {ι ι' : Lay} {st st1 st2 : State} {ts : Array Value} {w w' : World} {N : Nat → Prop}
def ofC (off : Bool) (st2 : State) (c : Cell) : Option Cell := match off with | true => offC st2 c | false => expC st2 c
def ofL (off : Bool) (st2 : State) (c : List Cell) : Option (List Cell) := match off with | true => offL st2 c | false => expL st2 c
theorem expA_rd {off : Bool} {ms : List Mode} {v : Val} {vs : List Val} {asx : List Comp} (h : expA off st st2 (.rd :: ms) (v :: vs) = some asx) :
    (∃ c c' r, v = .v (.one c) ∧ ofC off st2 c = some c' ∧ expA off st st2 ms vs = some r ∧ asx = .one c' :: r) ∨ (∃ cs cs' r, v = .v (.agg cs) ∧ ofL off st2 cs = some cs' ∧ expA off st st2 ms vs = some r ∧ asx = .agg cs' :: r) := by
  cases v with
  | v c =>
    cases c with
    | one c =>
      simp only [expA] at h
      split at h
      · rename_i c' hc
        split at h
        · rename_i r hr
          cases h
          exact .inl ⟨c, c', r, rfl, hc, hr, rfl⟩
        · cases h
      · cases h
    | agg cs =>
      simp only [expA] at h
      split at h
      · rename_i c' hc
        split at h
        · rename_i r hr
          cases h
          exact .inr ⟨cs, c', r, rfl, hc, hr, rfl⟩
        · cases h
      · cases h
  | _ => simp [expA] at h
theorem expA_rp {off : Bool} {ms : List Mode} {v : Val} {vs : List Val} {asx : List Comp} (h : expA off st st2 (.rp :: ms) (v :: vs) = some asx) :
    off = false ∧ ∃ r t e x own fr q, v = .v (.one (.ptr r 0 0)) ∧ live st2.σ r ⟨t, e, [x], own, fr⟩ ∧ expA off st st2 ms vs = some q ∧ asx = .one (.lst t e [x] fr) :: q := by
  cases v with
  | v c =>
    cases c with
    | one c =>
      cases c with
      | ptr r i j =>
        cases i with
        | succ i => simp [expA] at h
        | zero =>
          cases j with
          | succ j => simp [expA] at h
          | zero =>
            simp only [expA] at h
            split at h
            · rename_i c' hc
              split at h
              · rename_i q hq
                cases h
                unfold ptrL at hc
                split at hc
                · rename_i t e x own fr hg
                  cases hc
                  exact ⟨rfl, r, t, e, x, own, fr, q, rfl, reg_eq.1 hg, hq, rfl⟩
                · cases hc
              · cases h
            · cases h
      | _ => simp [expA] at h
    | _ => simp [expA] at h
  | _ => simp [expA] at h
theorem expA_mt {off : Bool} {ms : List Mode} {v : Val} {vs : List Val} {asx : List Comp} (h : expA off st st2 (.mt :: ms) (v :: vs) = some asx) :
    (∃ r s t e l fr q, v = .v (.one (.ref r s)) ∧ live st.σ r ⟨t, e, l, true, fr⟩ ∧ expA off st st2 ms vs = some q ∧ asx = .one (.own t e l s) :: q) ∨
    (∃ r t e l fr q, v = .v (.one (.ptr r 0 0)) ∧ live st.σ r ⟨t, e, l, true, fr⟩ ∧ expA off st st2 ms vs = some q ∧ asx = .one (.optr t e l) :: q) := by
  cases v with
  | v c =>
    cases c with
    | one c =>
      cases c with
      | ref r s =>
        simp only [expA] at h
        split at h
        · rename_i t e l fr hg
          split at h
          · rename_i q hq
            cases h
            exact .inl ⟨r, s, t, e, l, fr, q, rfl, reg_eq.1 hg, hq, rfl⟩
          · cases h
        · cases h
      | ptr r i j =>
        cases i with
        | succ i => simp [expA] at h
        | zero =>
          cases j with
          | succ j => simp [expA] at h
          | zero =>
            simp only [expA] at h
            split at h
            · rename_i t e l fr hg
              split at h
              · rename_i q hq
                cases h
                exact .inr ⟨r, t, e, l, fr, q, rfl, reg_eq.1 hg, hq, rfl⟩
              · cases h
            · cases h
      | _ => simp [expA] at h
    | agg cs => simp [expA] at h
  | _ => simp [expA] at h
theorem expA_tk {off : Bool} {ms : List Mode} {v : Val} {vs : List Val} {asx : List Comp} (h : expA off st st2 (.tk :: ms) (v :: vs) = some asx) :
    (∃ r s t e l q, v = .v (.one (.ref r s)) ∧ live st.σ r ⟨t, e, l, true, true⟩ ∧ expA off st st2 ms vs = some q ∧ asx = .one (.own t e l s) :: q) := by
  cases v with
  | v c =>
    cases c with
    | one c =>
      cases c with
      | ref r s =>
        simp only [expA] at h
        split at h
        · rename_i t e l hg
          split at h
          · rename_i q hq
            cases h
            exact ⟨r, s, t, e, l, q, rfl, reg_eq.1 hg, hq, rfl⟩
          · cases h
        · cases h
      | _ => simp [expA] at h
    | agg cs => simp [expA] at h
  | _ => simp [expA] at h
theorem argsD_cons {p : PT} {ps : List PT} {c : Comp} {cs : List Comp} {x : Args (p :: ps)} (h : argsD (p :: ps) (c :: cs) = some x) : argD p c = some (hd x) ∧ argsD ps cs = some (tl x) := by
  simp only [argsD] at h
  split at h
  · rename_i y hy
    split at h
    · rename_i z hz
      cases h
      exact ⟨by rw [hd_cons]; exact hy, by rw [tl_cons]; exact hz⟩
    · cases h
  · cases h
/-- What the callee may read. -/
def ArgN (cx : Cx) (w : World) (ι : Lay) (st1 : State) (ks : List Nat) (off : Bool) (k : Nat) : Prop :=
  k < w.heap.size ∧ ¬ inM (ks.map ι) k ∧ (off = true → Rdb cx w ι st1.σ false k)
theorem inM_rows {ks : List Nat} {k : Nat} : inM (ks.map ι) k ↔ ∃ r ∈ ks, ∃ a, (ι r).1 = some a ∧ a.block = k := by
  constructor
  · rintro ⟨i, h, a, h1, h2, h3⟩
    rw [List.getElem?_map] at h1
    cases hr : ks[i]? with
    | none => rw [hr] at h1; cases h1
    | some r =>
      rw [hr] at h1
      cases h1
      exact ⟨r, List.mem_of_getElem? hr, a, h2, h3⟩
  · rintro ⟨r, hr, a, h1, h2⟩
    obtain ⟨i, hi⟩ := List.getElem?_of_mem hr
    exact ⟨i, ι r, a, by rw [List.getElem?_map, hi]; rfl, h1, h2⟩
structure Ahead (cx : Cx) (w : World) (ι : Lay) (st1 st2 : State) (ts : Array Value) (ks : List Nat) : Prop where
  sim : Sim cx ι st1 ts w
  nodup : ks.Nodup
  own : ∀ r ∈ ks, ∃ g, live st1.σ r g ∧ g.own = true
  len : st2.σ.length = st1.σ.length
  away : ∀ r g, live st2.σ r g ↔ live st1.σ r g ∧ r ∉ ks
  ts : st2.ts = st1.ts
  hid : st2.hid = st1.hid
variable {ks : List Nat} {off : Bool}
theorem Ahead.m (h : Ahead cx w ι st1 st2 ts ks) {k : Nat} (hk : inM (ks.map ι) k) : Own ι st1.σ k := by
  obtain ⟨r, hr, a, h1, h2⟩ := inM_rows.1 hk
  obtain ⟨g, h3, h4⟩ := h.own r hr
  exact ⟨r, g, a, h3, h4, h1, h2⟩
theorem Ahead.rdb (h : Ahead cx w ι st1 st2 ts ks) {fr : Bool} {k : Nat} (hk : Rdb cx w ι st1.σ fr k) : ArgN cx w ι st1 ks off k :=
  ⟨hk.1, fun hm => hk.2.1 (h.m hm), fun _ => hk.le (fun hh => by cases hh)⟩
theorem Ahead.blk (h : Ahead cx w ι st1 st2 ts ks) {r : Nat} {g : Reg} (hl : live st1.σ r g) (ho : g.own = true) (hr : r ∉ ks) {a : Addr} (ha : (ι r).1 = some a) : ArgN cx w ι st1 ks false a.block := by
  refine ⟨h.sim.ownlt hl ho ha, fun hm => ?_, fun hh => by cases hh⟩
  obtain ⟨r', hr', a', h1, h2⟩ := inM_rows.1 hm
  obtain ⟨g', h3, h4⟩ := h.own r' hr'
  have := h.sim.apart r r' g g' a a' hl h3 ho h4 ha h1 h2.symm
  subst this
  exact hr hr'
theorem Ahead.cell (h : Ahead cx w ι st1 st2 ts ks) {c c' : Cell} {u : Value} (hc : CRs cx ι st1 w c u) (he : ofC off st2 c = some c') : CRn w (ArgN cx w ι st1 ks off) c' u := by
  have rd : ∀ {r : Nat} {s : Slc} {g : Reg}, c = .ref r s → live st1.σ r g → g.own = false → RD w (ArgN cx w ι st1 ks off) (.slice g.t g.e) (view g.l s) [u] := fun {r s g} e hl ho => by
    subst e
    exact view_rd (((h.sim.regs r g hl).2 ho).mono (fun k hk => h.rdb hk) (fun _ _ => rfl)) (hc.2 g hl)
  cases off with
  | true =>
    simp only [ofC] at he
    cases c with
    | ref r s =>
      simp only [offC] at he
      split at he
      · rename_i t e l fr hg
        cases he
        exact rd rfl ((h.away r _).1 (reg_eq.1 hg)).1 rfl
      · cases he
    | lst t e l fr =>
      simp [offC, expC] at he
      subst he
      have hc : RD w (Rdb cx w ι st1.σ fr) (.slice t e) l [u] := hc
      exact hc.mono (fun k hk => h.rdb hk) (fun _ _ => rfl)
    | _ => simp [offC, expC] at he <;> (try (subst he; exact hc))
  | false =>
    simp only [ofC] at he
    cases c with
    | ref r s =>
      simp only [expC] at he
      split at he
      · rename_i g hg
        cases he
        obtain ⟨h1, h2⟩ := (h.away r g).1 (reg_eq.1 hg)
        cases ho : g.own with
        | false => exact rd rfl h1 ho
        | true => exact view_rd (own_rd ho (h.sim.regs r g h1) (fun k hk => h.rdb hk) (fun a ha => h.blk h1 ho h2 ha)) (hc.2 g h1)
      · cases he
    | lst t e l fr =>
      simp [expC] at he
      subst he
      have hc : RD w (Rdb cx w ι st1.σ fr) (.slice t e) l [u] := hc
      exact hc.mono (fun k hk => h.rdb hk) (fun _ _ => rfl)
    | _ => simp [expC] at he <;> (try (subst he; exact hc))
theorem Ahead.cells (h : Ahead cx w ι st1 st2 ts ks) : ∀ {cs cs' : List Cell} {us : List Value}, All2 (CRs cx ι st1 w) cs us → ofL off st2 cs = some cs' → All2 (CRn w (ArgN cx w ι st1 ks off)) cs' us
  | [], cs', _, .nil, he => by
    cases off <;> simp only [ofL, offL, expL] at he <;> cases he <;> exact .nil
  | c :: cs, cs', _, .cons h1 h2, he => by
    have : ∃ c1 r1, ofC off st2 c = some c1 ∧ ofL off st2 cs = some r1 ∧ cs' = c1 :: r1 := by
      cases off <;> simp only [ofL, offL, expL] at he
      · split at he
        · rename_i c1 hc1
          split at he
          · rename_i r1 hr1
            cases he
            exact ⟨c1, r1, hc1, hr1, rfl⟩
          · cases he
        · cases he
      · split at he
        · rename_i c1 hc1
          split at he
          · rename_i r1 hr1
            cases he
            exact ⟨c1, r1, hc1, hr1, rfl⟩
          · cases he
        · cases he
    obtain ⟨c1, r1, h3, h4, rfl⟩ := this
    exact .cons (h.cell h1 h3) (h.cells h2 h4)
theorem Ahead.row (h : Ahead cx w ι st1 st2 ts ks) {r : Nat} {t : TypeId} {e : Ty} {l : List e.den} {fr : Bool} (hl : live st1.σ r ⟨t, e, l, true, fr⟩) : OwnR w (ArgN cx w ι st1 ks off) t e l (ι r) := by
  obtain ⟨xs, h1, h2, _⟩ := (h.sim.regs r _ hl).1 rfl
  exact ⟨xs, h1.mono (fun k hk => h.rdb hk) (fun _ _ => rfl), h2⟩
theorem Ahead.args (h : Ahead cx w ι st1 st2 ts ks) : ∀ (ps : List PT) {args : List Val} {us : List Value} {asx : List Comp} {x : Args ps}, All2 (VR (CRs cx ι st1 w)) args us →
    expA off st1 st2 (ps.map PT.mode) args = some asx → argsD ps asx = some x → ArgsR w (ArgN cx w ι st1 ks off) ps x us ((rowsOf (ps.map PT.mode) args).map ι)
  | [], [], _, asx, x, .nil, he, hd' => by
    exact ⟨rfl, rfl⟩
  | [], _ :: _, _, asx, x, _, he, hd' => by simp [expA] at he
  | p :: ps, [], _, asx, x, _, he, hd' => by cases hm : p.mode <;> simp [expA, hm] at he
  | .rd e :: ps, v :: vs, _ :: us, asx, x, .cons h1 h2, he, hd' => by
    rcases expA_rd he with ⟨c, c', r, rfl, h3, h4, rfl⟩ | ⟨cs, cs', r, rfl, h3, h4, rfl⟩
    · obtain ⟨h5, h6⟩ := argsD_cons hd'
      exact ⟨_, us, rfl, decn1_rel h5 (.cons (h.cell h1 h3) .nil), h.args ps h2 h4 h6⟩
    · obtain ⟨h5, h6⟩ := argsD_cons hd'
      simp [argD] at h5
  | .ag e :: ps, v :: vs, _ :: us, asx, x, .cons h1 h2, he, hd' => by
    rcases expA_rd he with ⟨c, c', r, rfl, h3, h4, rfl⟩ | ⟨cs, cs', r, rfl, h3, h4, rfl⟩
    · obtain ⟨h5, h6⟩ := argsD_cons hd'
      simp [argD] at h5
    · obtain ⟨h5, h6⟩ := argsD_cons hd'
      obtain ⟨vs', rfl, h7⟩ := h1
      exact ⟨vs', us, rfl, decn1_rel h5 (h.cells h7 h3), h.args ps h2 h4 h6⟩
  | .rp t e :: ps, v :: vs, u :: us, asx, x, .cons h1 h2, he, hd' => by
    obtain ⟨hoff, r, t', e', x', own, fr, q, rfl, hl, hq, rfl⟩ := expA_rp he
    obtain ⟨h5, h6⟩ := argsD_cons hd'
    simp only [argD] at h5
    split at h5
    · rename_i heq
      obtain ⟨rfl, rfl⟩ := heq
      obtain rfl := Option.some.inj h5
      obtain ⟨h7, h8⟩ := (h.away r _).1 hl
      have h1 : CR cx w ι st1.σ (.ptr r 0 0) u := h1
      obtain ⟨a0, h9, _, h10⟩ := h1.2 _ h7
      have hrd : RD w (ArgN cx w ι st1 ks off) (.slice t' e') [hd x] [.slice (ι r).1 1 (ι r).2] := by
        cases own with
        | false => exact ((h.sim.regs r _ h7).2 rfl).mono (fun k hk => h.rdb hk) (fun _ _ => rfl)
        | true => exact own_rd rfl (h.sim.regs r _ h7) (fun k hk => h.rdb hk) (fun a ha => by rw [hoff]; exact h.blk h7 rfl h8 ha)
      rw [h9] at hrd
      exact ⟨a0, (ι r).2, us, by rw [h10]; simp [Addr.add], hrd, h.args ps h2 hq h6⟩
    · cases h5
  | .fn f :: ps, v :: vs, _ :: us, asx, x, .cons h1 h2, he, hd' => by
    rcases expA_rd he with ⟨c, c', r, rfl, h3, h4, rfl⟩ | ⟨cs, cs', r, rfl, h3, h4, rfl⟩
    · obtain ⟨h5, h6⟩ := argsD_cons hd'
      have h8 := h.cell h1 h3
      cases c' <;> simp [argD] at h5
      subst h5
      have h8 : _ = Value.func (.func f) #[] #[] := h8
      exact ⟨us, by rw [h8], h.args ps h2 h4 h6⟩
    · obtain ⟨h5, h6⟩ := argsD_cons hd'
      simp [argD] at h5
  | .ow t e tk pre :: ps, v :: vs, u0 :: us, asx, x, .cons h1 h2, he, hd' => by
    have key : ∀ {r : Nat} {s : Slc} {t' : TypeId} {e' : Ty} {l : List e'.den} {fr : Bool} {q : List Comp}, v = .v (.one (.ref r s)) → live st1.σ r ⟨t', e', l, true, fr⟩ → expA off st1 st2 (ps.map PT.mode) vs = some q → asx = .one (.own t' e' l s) :: q →
        ∀ ms, rowsOf ms (v :: vs) = r :: rowsOf (ps.map PT.mode) vs → ArgsR w (ArgN cx w ι st1 ks off) (.ow t e tk pre :: ps) x (u0 :: us) ((rowsOf ms (v :: vs)).map ι) := fun {r s t' e' l fr q} e1 hl hq e2 ms hms => by
      subst e1 e2
      obtain ⟨h5, h6⟩ := argsD_cons hd'
      have hv := h1.2 _ hl
      have hrest := h.args ps h2 hq h6
      rw [hms]
      cases pre with
      | false =>
        cases s <;> simp [argD] at h5
        obtain ⟨⟨rfl, rfl⟩, h7⟩ := h5
        have hv : _ = Value.slice (ι r).1 l.length (ι r).2 := hv
        refine ⟨ι r, us, _, ?_, rfl, ?_, hrest⟩
        · rw [hv, ← h7]
        · rw [← h7]; exact h.row hl
      | true =>
        cases s <;> simp [argD] at h5
        · obtain ⟨⟨rfl, rfl⟩, h7⟩ := h5
          have hv : _ = Value.slice (ι r).1 l.length (ι r).2 := hv
          refine ⟨ι r, us, _, ?_, rfl, ?_, ?_, hrest⟩
          · rw [hv, ← h7]; rfl
          · rw [← h7]; exact Nat.le_refl _
          · rw [← h7]; exact h.row hl
        rename_i n
        obtain ⟨⟨rfl, rfl⟩, h7⟩ := h5
        obtain ⟨hn, hv⟩ : n ≤ l.length ∧ _ = Value.slice (ι r).1 n (ι r).2 := hv
        refine ⟨ι r, us, _, ?_, rfl, ?_, ?_, hrest⟩
        · rw [hv, ← h7]
        · rw [← h7]; exact hn
        · rw [← h7]; exact h.row hl
    cases tk with
    | true =>
      obtain ⟨r, s, t', e', l, q, e1, hl, hq, e2⟩ := expA_tk he
      exact key e1 hl hq e2 _ (by subst e1; rfl)
    | false =>
      rcases expA_mt he with ⟨r, s, t', e', l, fr, q, e1, hl, hq, e2⟩ | ⟨r, t', e', l, fr, q, e1, hl, hq, e2⟩
      · exact key e1 hl hq e2 _ (by subst e1; rfl)
      · subst e1 e2
        obtain ⟨h5, h6⟩ := argsD_cons hd'
        cases pre <;> simp [argD] at h5
  | .op t e :: ps, v :: vs, _ :: us, asx, x, .cons h1 h2, he, hd' => by
    rcases expA_mt he with ⟨r, s, t', e', l, fr, q, e1, hl, hq, e2⟩ | ⟨r, t', e', l, fr, q, e1, hl, hq, e2⟩
    · subst e1 e2
      obtain ⟨h5, h6⟩ := argsD_cons hd'
      simp [argD] at h5
    · subst e1 e2
      obtain ⟨h5, h6⟩ := argsD_cons hd'
      match l, hl, h5 with
      | [y], hl, h5 =>
        simp [argD] at h5
        obtain ⟨⟨rfl, rfl⟩, h7⟩ := h5
        obtain ⟨a, ha, _, hv⟩ := h1.2 _ hl
        have hι : ι r = (some a, (ι r).2) := by rw [← ha]
        have hrow := h.row (off := off) hl
        rw [hι] at hrow
        refine ⟨a, (ι r).2, us, (rowsOf (ps.map PT.mode) vs).map ι, ?_, ?_, ?_, h.args ps h2 hq h6⟩
        · rw [hv]; simp [Addr.add]
        · show ι r :: _ = _; rw [hι]
        · rw [← h7]; exact hrow
      | [], _, h5 => simp [argD] at h5
      | _ :: _ :: _, _, h5 => simp [argD] at h5
end
end Go.Proofs.Ytpfjneaoankllaa.Ev

/-! A call: what comes back. -/
namespace Go.Proofs.Ytpfjneaoankllaa.Ev
open Go.RowKit
section
variable {cx : Cx} {ι ι' : Lay} {st st1 st2 : State} {ts : Array Value} {w w' : World} {N : Nat → Prop}
def rowsMt : List Mode → List Val → List Nat
  | .mt :: ms, .v (.one (.ref r _)) :: vs => r :: rowsMt ms vs
  | .mt :: ms, .v (.one (.ptr r _ _)) :: vs => r :: rowsMt ms vs
  | .tk :: ms, _ :: vs => rowsMt ms vs
  | .rd :: ms, _ :: vs => rowsMt ms vs
  | .rp :: ms, _ :: vs => rowsMt ms vs
  | _, _ => []
def rowsTk : List Mode → List Val → List Nat
  | .tk :: ms, .v (.one (.ref r _)) :: vs => r :: rowsTk ms vs
  | .mt :: ms, _ :: vs => rowsTk ms vs
  | .rd :: ms, _ :: vs => rowsTk ms vs
  | .rp :: ms, _ :: vs => rowsTk ms vs
  | _, _ => []
/-- A row asx it has come back. -/
def Lent (w' : World) (ι : Lay) (st1 : State) (r : Nat) (g : Reg) : Prop :=
  ∃ g1, live st1.σ r g1 ∧ g1.own = true ∧ g.own = true ∧ g.fr = g1.fr ∧ g.e.size = g1.e.size ∧ g.l.length = g1.l.length ∧ flat g.e = true ∧ OwnR w' (fun _ => True) g.t g.e g.l (ι r)
theorem okPs_cons {p : PT} {ps : List PT} (h : okPs (p :: ps) = true) : okP p = true ∧ okPs ps = true := by
  simp only [okPs] at h
  split at h
  · exact ⟨by assumption, h⟩
  · cases h
/-- The rows of a call's arguments: those that are lent, those that are given. -/
theorem rows_spec {off : Bool} : ∀ (ps : List PT) {args : List Val} {asx : List Comp}, expA off st1 st2 (ps.map PT.mode) args = some asx →
    (∀ r ∈ rowsMt (ps.map PT.mode) args, r ∈ rowsOf (ps.map PT.mode) args) ∧ (∀ r ∈ rowsTk (ps.map PT.mode) args, r ∈ rowsOf (ps.map PT.mode) args ∧ ∃ g, live st1.σ r g ∧ g.own = true ∧ g.fr = true) ∧
    ((rowsOf (ps.map PT.mode) args).Nodup → ∀ r ∈ rowsMt (ps.map PT.mode) args, r ∉ rowsTk (ps.map PT.mode) args) ∧
    (∀ (ι : Lay) k, inT ps ((rowsOf (ps.map PT.mode) args).map ι) k → ∃ r ∈ rowsTk (ps.map PT.mode) args, ∃ a, (ι r).1 = some a ∧ a.block = k)
  | [], [], asx, he => by
    refine ⟨by simp [rowsMt], by simp [rowsTk], fun _ => by simp [rowsMt], fun ι k ⟨i, h, a, h1, h2, _⟩ => by simp [tks] at h2⟩
  | [], _ :: _, asx, he => by simp [expA] at he
  | p :: ps, [], asx, he => by cases hm : p.mode <;> simp [expA, hm] at he
  | .rd e :: ps, v :: vs, asx, he => by
    rcases expA_rd he with ⟨c, c', r, rfl, h3, h4, rfl⟩ | ⟨cs, cs', r, rfl, h3, h4, rfl⟩ <;> exact rows_spec ps h4
  | .ag e :: ps, v :: vs, asx, he => by
    rcases expA_rd he with ⟨c, c', r, rfl, h3, h4, rfl⟩ | ⟨cs, cs', r, rfl, h3, h4, rfl⟩ <;> exact rows_spec ps h4
  | .rp t e :: ps, v :: vs, asx, he => by
    obtain ⟨_, r, t', e', x', own, fr, q, rfl, hl, hq, rfl⟩ := expA_rp he
    exact rows_spec ps hq
  | .fn f :: ps, v :: vs, asx, he => by
    rcases expA_rd he with ⟨c, c', r, rfl, h3, h4, rfl⟩ | ⟨cs, cs', r, rfl, h3, h4, rfl⟩ <;> exact rows_spec ps h4
  | .ow t e true pre :: ps, v :: vs, asx, he => by
    obtain ⟨r, s, t', e', l, q, rfl, hl, hq, rfl⟩ := expA_tk he
    obtain ⟨h1, h2, h3, h4⟩ := rows_spec ps hq
    refine ⟨fun r' hr => List.mem_cons_of_mem _ (h1 r' hr), fun r' hr => ?_, fun hn r' hr => ?_, fun ι k hk => ?_⟩
    · rcases List.mem_cons.1 hr with rfl | hr
      · exact ⟨List.mem_cons_self .., _, hl, rfl, rfl⟩
      · exact ⟨List.mem_cons_of_mem _ (h2 r' hr).1, (h2 r' hr).2⟩
    · have hn := List.nodup_cons.1 hn
      intro hm
      rcases List.mem_cons.1 hm with rfl | hm
      · exact hn.1 (h1 _ hr)
      · exact h3 hn.2 r' hr hm
    · obtain ⟨i, h, a, h5, h6, h7, h8⟩ := hk
      cases i with
      | zero =>
        cases h5
        exact ⟨r, List.mem_cons_self .., a, h7, h8⟩
      | succ i =>
        obtain ⟨r', h9, h10⟩ := h4 ι k ⟨i, h, a, h5, h6, h7, h8⟩
        exact ⟨r', List.mem_cons_of_mem _ h9, h10⟩
  | .ow t e false pre :: ps, v :: vs, asx, he => by
    rcases expA_mt he with ⟨r, s, t', e', l, fr, q, rfl, hl, hq, rfl⟩ | ⟨r, t', e', l, fr, q, rfl, hl, hq, rfl⟩ <;>
    · obtain ⟨h1, h2, h3, h4⟩ := rows_spec ps hq
      refine ⟨fun r' hr => ?_, fun r' hr => ⟨List.mem_cons_of_mem _ (h2 r' hr).1, (h2 r' hr).2⟩, fun hn r' hr => ?_, fun ι k hk => ?_⟩
      · rcases List.mem_cons.1 hr with rfl | hr
        · exact List.mem_cons_self ..
        · exact List.mem_cons_of_mem _ (h1 r' hr)
      · have hn := List.nodup_cons.1 hn
        rcases List.mem_cons.1 hr with rfl | hr
        · exact fun hm => hn.1 (h2 _ hm).1
        · exact h3 hn.2 r' hr
      · obtain ⟨i, h, a, h5, h6, h7, h8⟩ := hk
        cases i with
        | zero => cases h6
        | succ i => exact h4 ι k ⟨i, h, a, h5, h6, h7, h8⟩
  | .op t e :: ps, v :: vs, asx, he => by
    rcases expA_mt he with ⟨r, s, t', e', l, fr, q, rfl, hl, hq, rfl⟩ | ⟨r, t', e', l, fr, q, rfl, hl, hq, rfl⟩ <;>
    · obtain ⟨h1, h2, h3, h4⟩ := rows_spec ps hq
      refine ⟨fun r' hr => ?_, fun r' hr => ⟨List.mem_cons_of_mem _ (h2 r' hr).1, (h2 r' hr).2⟩, fun hn r' hr => ?_, fun ι k hk => ?_⟩
      · rcases List.mem_cons.1 hr with rfl | hr
        · exact List.mem_cons_self ..
        · exact List.mem_cons_of_mem _ (h1 r' hr)
      · have hn := List.nodup_cons.1 hn
        rcases List.mem_cons.1 hr with rfl | hr
        · exact fun hm => hn.1 (h2 _ hm).1
        · exact h3 hn.2 r' hr
      · obtain ⟨i, h, a, h5, h6, h7, h8⟩ := hk
        cases i with
        | zero => cases h6
        | succ i => exact h4 ι k ⟨i, h, a, h5, h6, h7, h8⟩
theorem giveBack_spec {off : Bool} {sta : State} : ∀ (ps : List PT) {args : List Val} {asx : List Comp} {x : Args ps} {b : dens (backs ps)} {st2 st3 : State}, expA off st1 sta (ps.map PT.mode) args = some asx → argsD ps asx = some x → okPs ps = true →
    BackR w' (fun _ => True) ps x b ((rowsOf (ps.map PT.mode) args).map ι) → giveBack st1 st2 ps args b = some st3 →
    st3.σ.length = st2.σ.length ∧ st3.ts = st2.ts ∧ st3.hid = st2.hid ∧ ∀ r g, live st3.σ r g → live st2.σ r g ∨ (r ∈ rowsMt (ps.map PT.mode) args ∧ Lent w' ι st1 r g)
  | [], [], asx, x, b, st2, st3, he, hd', ho, hb, hg => by
    simp only [giveBack] at hg
    cases hg
    exact ⟨rfl, rfl, rfl, fun r g h => .inl h⟩
  | [], _ :: _, asx, x, b, st2, st3, he, hd', ho, hb, hg => by simp [expA] at he
  | p :: ps, [], asx, x, b, st2, st3, he, hd', ho, hb, hg => by cases hm : p.mode <;> simp [expA, hm] at he
  | .rd e :: ps, v :: vs, asx, x, b, st2, st3, he, hd', ho, hb, hg => by
    rcases expA_rd he with ⟨c, c', r, rfl, h3, h4, rfl⟩ | ⟨cs, cs', r, rfl, h3, h4, rfl⟩ <;>
    exact giveBack_spec ps h4 (argsD_cons hd').2 (okPs_cons ho).2 hb hg
  | .ag e :: ps, v :: vs, asx, x, b, st2, st3, he, hd', ho, hb, hg => by
    rcases expA_rd he with ⟨c, c', r, rfl, h3, h4, rfl⟩ | ⟨cs, cs', r, rfl, h3, h4, rfl⟩ <;>
    exact giveBack_spec ps h4 (argsD_cons hd').2 (okPs_cons ho).2 hb hg
  | .rp t e :: ps, v :: vs, asx, x, b, st2, st3, he, hd', ho, hb, hg => by
    obtain ⟨_, r, t', e', x', own, fr, q, rfl, hl, hq, rfl⟩ := expA_rp he
    exact giveBack_spec ps hq (argsD_cons hd').2 (okPs_cons ho).2 hb hg
  | .fn f :: ps, v :: vs, asx, x, b, st2, st3, he, hd', ho, hb, hg => by
    rcases expA_rd he with ⟨c, c', r, rfl, h3, h4, rfl⟩ | ⟨cs, cs', r, rfl, h3, h4, rfl⟩ <;>
    exact giveBack_spec ps h4 (argsD_cons hd').2 (okPs_cons ho).2 hb hg
  | .ow t e true pre :: ps, v :: vs, asx, x, b, st2, st3, he, hd', ho, hb, hg => by
    obtain ⟨r, s, t', e', l, q, rfl, hl, hq, rfl⟩ := expA_tk he
    cases pre <;> exact giveBack_spec ps hq (argsD_cons hd').2 (okPs_cons ho).2 hb hg
  | .ow t e false pre :: ps, v :: vs, asx, x, b, st2, st3, he, hd', ho, hb, hg => by
    rcases expA_mt he with ⟨r, s, t', e', l, fr, q, rfl, hl, hq, rfl⟩ | ⟨r, t', e', l, fr, q, rfl, hl, hq, rfl⟩
    · obtain ⟨h5, h6⟩ := argsD_cons hd'
      obtain ⟨hf, ho'⟩ := okPs_cons ho
      simp only [giveBack] at hg
      rw [reg_eq.2 hl] at hg
      dsimp only at hg
      have key : ∀ {y : List e.den}, y.length = l.length → e' = e → t' = t → OwnR w' (fun _ => True) t e y (ι r) → BackR w' (fun _ => True) ps (tl x) (tl b) ((rowsOf (ps.map PT.mode) vs).map ι) → y = hd b →
          st3.σ.length = st2.σ.length ∧ st3.ts = st2.ts ∧ st3.hid = st2.hid ∧ ∀ r' g, live st3.σ r' g → live st2.σ r' g ∨ (r' ∈ rowsMt ((PT.ow t e false pre :: ps).map PT.mode) (.v (.one (.ref r s)) :: vs) ∧ Lent w' ι st1 r' g) := fun {y} hlen e1 e2 hrow hb' e3 => by
        subst e1 e2 e3
        obtain ⟨h7, h8, h9, h10⟩ := giveBack_spec ps hq h6 ho' hb' hg
        refine ⟨by rw [h7, set_σ]; simp, h8, h9, fun r' g hr => ?_⟩
        rcases h10 r' g hr with h11 | ⟨h11, h12⟩
        · rw [set_σ] at h11
          rcases live_set.1 h11 with ⟨rfl, _, e4⟩ | ⟨_, h11⟩
          · cases e4
            exact .inr ⟨List.mem_cons_self .., _, hl, rfl, rfl, rfl, rfl, hlen, hf, hrow⟩
          · exact .inl h11
        · exact .inr ⟨List.mem_cons_of_mem _ h11, h12⟩
      cases pre with
      | false =>
        cases s <;> simp [argD] at h5
        obtain ⟨⟨e1, e2⟩, h7⟩ := h5
        subst e1 e2
        obtain ⟨hb1, hb2, hb3⟩ := hb
        exact key (y := hd b) (by rw [hb1, ← h7]) rfl rfl hb2 hb3 rfl
      | true =>
        cases s <;> simp [argD] at h5 <;>
        · obtain ⟨⟨e1, e2⟩, h7⟩ := h5
          subst e1 e2
          obtain ⟨hb1, hb2, hb3⟩ := hb
          exact key (y := hd b) (by rw [hb1, ← h7]) rfl rfl hb2 hb3 rfl
    · obtain ⟨h5, h6⟩ := argsD_cons hd'
      cases pre <;> simp [argD] at h5
  | .op t e :: ps, v :: vs, asx, x, b, st2, st3, he, hd', ho, hb, hg => by
    rcases expA_mt he with ⟨r, s, t', e', l, fr, q, rfl, hl, hq, rfl⟩ | ⟨r, t', e', l, fr, q, rfl, hl, hq, rfl⟩
    · obtain ⟨h5, h6⟩ := argsD_cons hd'
      simp [argD] at h5
    · obtain ⟨h5, h6⟩ := argsD_cons hd'
      obtain ⟨hf, ho'⟩ := okPs_cons ho
      match l, hl, h5 with
      | [y], hl, h5 =>
        simp [argD] at h5
        obtain ⟨⟨e1, e2⟩, h7⟩ := h5
        subst e1 e2
        simp only [giveBack] at hg
        rw [reg_eq.2 hl] at hg
        dsimp only at hg
        obtain ⟨hb2, hb3⟩ := hb
        obtain ⟨h7, h8, h9, h10⟩ := giveBack_spec ps hq h6 ho' hb3 hg
        refine ⟨by rw [h7, set_σ]; simp, h8, h9, fun r' g hr => ?_⟩
        rcases h10 r' g hr with h11 | ⟨h11, h12⟩
        · rw [set_σ] at h11
          rcases live_set.1 h11 with ⟨rfl, _, e4⟩ | ⟨_, h11⟩
          · cases e4
            exact .inr ⟨List.mem_cons_self .., _, hl, rfl, rfl, rfl, rfl, rfl, hf, hb2⟩
          · exact .inl h11
        · exact .inr ⟨List.mem_cons_of_mem _ h11, h12⟩
      | [], _, h5 => simp [argD] at h5
      | _ :: _ :: _, _, h5 => simp [argD] at h5
end
end Go.Proofs.Ytpfjneaoankllaa.Ev

/-! A call: its results; the whole. -/
namespace Go.Proofs.Ytpfjneaoankllaa.Ev
open Go.RowKit
section
variable {cx : Cx} {ι ι' : Lay} {st st1 st2 : State} {ts : Array Value} {w w' : World} {N : Nat → Prop}
/-- A call's results, as cells. -/
def compsOf : (rs : List RT) → dens (rs.map RT.den) → List Comp
  | [], _ => []
  | .rd e fr :: rs, x => (match enc e (hd x) fr with | [c] => .one c | cs => .agg cs) :: compsOf rs (tl x)
  | .ag e fr :: rs, x => .agg (enc e (hd x) fr) :: compsOf rs (tl x)
  | .ow t e false :: rs, x => .one (.own t e (hd x) .all) :: compsOf rs (tl x)
  | .ow t e true :: rs, x => .one (.own t e (hd x).1 (.pre (hd x).2)) :: compsOf rs (tl x)
theorem split_cons {α : Type} {a b : List Type} (x : dens (α :: (a ++ b))) : split (α :: a) x = (cons (hd x) (split a (tl x)).1, (split a (tl x)).2) := by
  show (match split a (tl x) with | (y, z) => (cons (hd x) y, z)) = _
  cases split a (tl x); rfl
theorem resC_eq : ∀ (rs : List RT) {b : List Type} (y : dens (rs.map RT.den ++ b)), resC rs y = (compsOf rs (split (rs.map RT.den) y).1, (split (rs.map RT.den) y).2)
  | [], _, _ => rfl
  | .rd e fr :: rs, b, y => by
    have := resC_eq rs (b := b) (tl y)
    simp only [resC, this]
    show _ = (compsOf (.rd e fr :: rs) (split ((RT.rd e fr).den :: rs.map RT.den) y).1, (split ((RT.rd e fr).den :: rs.map RT.den) y).2)
    rw [split_cons]
    simp only [compsOf, hd_cons, tl_cons]
    rfl
  | .ag e fr :: rs, b, y => by
    have := resC_eq rs (b := b) (tl y)
    simp only [resC, this]
    show _ = (compsOf (.ag e fr :: rs) (split ((RT.ag e fr).den :: rs.map RT.den) y).1, (split ((RT.ag e fr).den :: rs.map RT.den) y).2)
    rw [split_cons]
    simp only [compsOf, hd_cons, tl_cons]
  | .ow t e false :: rs, b, y => by
    have := resC_eq rs (b := b) (tl y)
    simp only [resC, this]
    show _ = (compsOf (.ow t e false :: rs) (split ((RT.ow t e false).den :: rs.map RT.den) y).1, (split ((RT.ow t e false).den :: rs.map RT.den) y).2)
    rw [split_cons]
    simp only [compsOf, hd_cons, tl_cons]
  | .ow t e true :: rs, b, y => by
    have := resC_eq rs (b := b) (tl y)
    simp only [resC, this]
    show _ = (compsOf (.ow t e true :: rs) (split ((RT.ow t e true).den :: rs.map RT.den) y).1, (split ((RT.ow t e true).den :: rs.map RT.den) y).2)
    rw [split_cons]
    simp only [compsOf, hd_cons, tl_cons]
/-- The rows that are handed over. -/
def newRows : (rs : List RT) → dens (rs.map RT.den) → List Reg
  | [], _ => []
  | .rd _ _ :: rs, x => newRows rs (tl x)
  | .ag _ _ :: rs, x => newRows rs (tl x)
  | .ow t e false :: rs, x => ⟨t, e, hd x, true, true⟩ :: newRows rs (tl x)
  | .ow t e true :: rs, x => ⟨t, e, (hd x).1, true, true⟩ :: newRows rs (tl x)
theorem okRs_tl {alias : Bool} {r : RT} {rs : List RT} (h : okRs alias (r :: rs) = true) : okRs alias rs = true := by
  simp only [okRs] at h
  split at h
  · exact h
  · cases h
theorem okR_ow {alias b : Bool} {t : TypeId} {e : Ty} {rs : List RT} (h : okRs alias (.ow t e b :: rs) = true) : isVar e = false := by
  simp only [okRs, okR] at h
  cases hv : isVar e with
  | true => rw [hv] at h; cases h
  | false => rfl
theorem newRows_spec {N : Bool → Nat → Prop} {alias : Bool} : ∀ (rs : List RT) {x : dens (rs.map RT.den)} {us : List Value} {os : List Hand}, ResR w' N rs x us os → okRs alias rs = true →
    (newRows rs x).length = os.length ∧ ∀ (i : Nat) g o, (newRows rs x)[i]? = some g → os[i]? = some o → g.own = true ∧ g.fr = true ∧ isVar g.e = false ∧ OwnR w' (N true) g.t g.e g.l o
  | [], _, _, _, h, _ => by
    obtain ⟨_, rfl⟩ := h
    exact ⟨rfl, fun i g o h => by simp [newRows] at h⟩
  | .rd _ _ :: rs, _, _, _, h, ho => by
    obtain ⟨_, _, _, _, h⟩ := h
    exact newRows_spec rs h (okRs_tl ho)
  | .ag _ _ :: rs, _, _, _, h, ho => by
    obtain ⟨_, _, _, _, h⟩ := h
    exact newRows_spec rs h (okRs_tl ho)
  | .ow t e false :: rs, _, _, _, h, ho => by
    obtain ⟨o, r, os', _, rfl, h1, h⟩ := h
    obtain ⟨h2, h3⟩ := newRows_spec rs h (okRs_tl ho)
    refine ⟨by simp [newRows, h2], fun i g o' hg ho' => ?_⟩
    cases i with
    | zero => cases hg; cases ho'; exact ⟨rfl, rfl, okR_ow ho, h1⟩
    | succ i => exact h3 i g o' hg ho'
  | .ow t e true :: rs, _, _, _, h, ho => by
    obtain ⟨o, r, os', _, rfl, _, h1, h⟩ := h
    obtain ⟨h2, h3⟩ := newRows_spec rs h (okRs_tl ho)
    refine ⟨by simp [newRows, h2], fun i g o' hg ho' => ?_⟩
    cases i with
    | zero => cases hg; cases ho'; exact ⟨rfl, rfl, okR_ow ho, h1⟩
    | succ i => exact h3 i g o' hg ho'
theorem deadC_rel' {σ : List (Option Reg)} : ∀ (n : Nat) (vs : List Value), vs.length = n → All2 (CR cx w ι σ) (deadC n) vs
  | 0, [], _ => .nil
  | 0, _ :: _, h => by cases h
  | _ + 1, [], h => by cases h
  | n + 1, v :: vs, h => .cons trivial (deadC_rel' n vs (by simpa using h))
/-- The cells that a datum has. -/
theorem encn_rel {fr : Bool} {σ : List (Option Reg)} : ∀ {e : Ty} {x : e.den} {vs : List Value}, RD w (Rdb cx w ι σ fr) e x vs → All2 (CR cx w ι σ) (enc e x fr) vs
  | .int k, x, vs, h => by cases h; exact .cons rfl .nil
  | .bool, x, vs, h => by cases h; exact .cons rfl .nil
  | .str, x, vs, h => by cases h; exact .cons rfl .nil
  | .unit, x, vs, h => by cases h; exact .nil
  | .var n, x, vs, h => deadC_rel' n vs h.1
  | .pair a b, x, vs, h => by
    obtain ⟨v1, v2, rfl, h1, h2⟩ := h
    simp only [enc, app_eq]
    exact (encn_rel h1).app (encn_rel h2)
  | .slice t e, l, vs, h => by
    obtain ⟨A, c, rfl, h1⟩ := id h
    exact .cons h .nil
theorem ownR_rel {Nf : Bool → Nat → Prop} {alias : Bool} : ∀ (rs : List RT) {x : dens (rs.map RT.den)} {us : List Value} {os : List Hand} {st : State}, ResR w' Nf rs x us os → okRs alias rs = true →
    ∃ cs, ownR st (compsOf rs x) = (cs, ⟨st.ts, st.hid, st.σ ++ (newRows rs x).map some⟩) ∧
      ∀ (ι' : Lay) (σ' : List (Option Reg)), (∀ (i : Nat) g o, (newRows rs x)[i]? = some g → os[i]? = some o → live σ' (st.σ.length + i) g ∧ ι' (st.σ.length + i) = o) →
        (∀ fr k, (alias = true ∨ fr = true) → Nf fr k → Rdb cx w' ι' σ' fr k) → All2 (CompR (CR cx w' ι' σ')) cs us
  | [], x, us, os, st, h, ho => by
    obtain ⟨rfl, rfl⟩ := h
    exact ⟨[], by simp [compsOf, ownR, newRows], fun _ _ _ _ => .nil⟩
  | .rd e fr :: rs, x, us, os, st, h, ho => by
    obtain ⟨v, r, rfl, h1, h2⟩ := h
    simp only [okRs] at ho
    split at ho
    · rename_i hok
      obtain ⟨cs, h3, h4⟩ := ownR_rel rs (st := st) h2 ho
      have notown : ∀ t' e' l s, (match enc e (hd x) fr with | [c] => Comp.one c | cs => .agg cs) ≠ .one (.own t' e' l s) := fun t' e' l s hh => by
        have hne : ∀ (e : Ty) (x : e.den) (fr : Bool), Cell.own t' e' l s ∉ enc e x fr := by
          intro e
          induction e with
          | pair a b iha ihb => intro x fr hm; simp only [enc, app_eq, List.mem_append] at hm; rcases hm with hm | hm; exact iha _ _ hm; exact ihb _ _ hm
          | var n => intro x fr; simp only [enc]; induction n with
            | zero => simp [deadC]
            | succ n ih => simp only [deadC, List.mem_cons, not_or]; exact ⟨by simp, ih x⟩
          | _ => intro x fr; simp [enc]
        split at hh
        · rename_i c hc
          cases hh
          exact hne e (hd x) fr (by rw [hc]; simp)
        · cases hh
      refine ⟨(match enc e (hd x) fr with | [c] => Comp.one c | cs => .agg cs) :: cs, ?_, fun ι' σ' hn hN => .cons ?_ (h4 ι' σ' hn hN)⟩
      · simp only [compsOf]
        generalize hc : (match enc e (hd x) fr with | [c] => Comp.one c | cs => .agg cs) = c0 at notown ⊢
        match c0, notown with
        | .one (.own t' e' l s), notown => exact absurd rfl (notown t' e' l s)
        | .agg cs', _ => simp only [ownR, h3]; rfl
        | .one (.int _ _), _ => simp only [ownR, h3]; rfl
        | .one (.bool _), _ => simp only [ownR, h3]; rfl
        | .one (.str _), _ => simp only [ownR, h3]; rfl
        | .one .emp, _ => simp only [ownR, h3]; rfl
        | .one (.lst _ _ _ _), _ => simp only [ownR, h3]; rfl
        | .one (.optr _ _ _), _ => simp only [ownR, h3]; rfl
        | .one (.ref _ _), _ => simp only [ownR, h3]; rfl
        | .one (.ptr _ _ _), _ => simp only [ownR, h3]; rfl
        | .one (.fn _), _ => simp only [ownR, h3]; rfl
        | .one .dead, _ => simp only [ownR, h3]; rfl
      · have hrd : RD w' (Rdb cx w' ι' σ' fr) e (hd x) [v] := by
          cases hfl : Ev.flat e with
          | true => exact h1.flat hfl
          | false =>
            refine h1.mono (fun k hk => hN fr k ?_ hk) (fun _ _ => rfl)
            simp only [okR, hfl] at hok
            cases halias : alias with
            | true => exact .inl rfl
            | false =>
              rw [halias] at hok
              cases fr with
              | true => exact .inr rfl
              | false => cases hok
        have h5 := encn_rel hrd
        have hlen := h5.length
        split
        · rename_i c hc
          rw [hc] at h5
          cases h5 with
          | cons h6 _ => exact h6
        · rename_i hne
          match hcs : enc e (hd x) fr with
          | [] => rw [hcs] at hlen; cases hlen
          | [c] => exact absurd hcs (hne c)
          | _ :: _ :: _ => rw [hcs] at hlen; simp at hlen
    · cases ho
  | .ag e fr :: rs, x, us, os, st, h, ho => by
    obtain ⟨vs, r, rfl, h1, h2⟩ := h
    simp only [okRs] at ho
    split at ho
    · rename_i hok
      obtain ⟨cs, h3, h4⟩ := ownR_rel rs (st := st) h2 ho
      refine ⟨.agg (enc e (hd x) fr) :: cs, ?_, fun ι' σ' hn hN => .cons ?_ (h4 ι' σ' hn hN)⟩
      · simp only [compsOf, ownR, h3]; rfl
      · have hrd : RD w' (Rdb cx w' ι' σ' fr) e (hd x) vs.toList := by
          cases hfl : Ev.flat e with
          | true => exact h1.flat hfl
          | false =>
            refine h1.mono (fun k hk => hN fr k ?_ hk) (fun _ _ => rfl)
            simp only [okR, hfl] at hok
            cases halias : alias with
            | true => exact .inl rfl
            | false =>
              rw [halias] at hok
              cases fr with
              | true => exact .inr rfl
              | false => cases hok
        exact ⟨vs, rfl, encn_rel hrd⟩
    · cases ho
  | .ow t e false :: rs, x, us, os, st, h, ho => by
    obtain ⟨o, r, os', rfl, rfl, h1, h2⟩ := h
    replace ho := okRs_tl ho
    obtain ⟨cs, h3, h4⟩ := ownR_rel rs (st := st.new ⟨t, e, hd x, true, true⟩) h2 ho
    have hσ : (st.new ⟨t, e, hd x, true, true⟩).σ = st.σ ++ [some ⟨t, e, hd x, true, true⟩] := by simp [State.new, app_eq]
    refine ⟨.one (.ref (count st.σ) .all) :: cs, ?_, fun ι' σ' hn hN => .cons ?_ (h4 ι' σ' (fun i g o' hg ho' => ?_) hN)⟩
    · simp only [compsOf, ownR, h3, newRows, hσ]
      simp [State.new]
    · rw [count_eq]
      obtain ⟨h5, h6⟩ := hn 0 _ _ rfl rfl
      rw [Nat.add_zero] at h5 h6
      refine ⟨live_lt h5, fun g hg => ?_⟩
      obtain rfl := live_fun h5 hg
      rw [h6]; rfl
    · rw [hσ, List.length_append, List.length_singleton, Nat.add_assoc, Nat.add_comm 1 i]
      exact hn (i + 1) g o' hg ho'
  | .ow t e true :: rs, x, us, os, st, h, ho => by
    obtain ⟨o, r, os', rfl, rfl, hle, h1, h2⟩ := h
    replace ho := okRs_tl ho
    obtain ⟨cs, h3, h4⟩ := ownR_rel rs (st := st.new ⟨t, e, (hd x).1, true, true⟩) h2 ho
    have hσ : (st.new ⟨t, e, (hd x).1, true, true⟩).σ = st.σ ++ [some ⟨t, e, (hd x).1, true, true⟩] := by simp [State.new, app_eq]
    refine ⟨.one (.ref (count st.σ) (.pre (hd x).2)) :: cs, ?_, fun ι' σ' hn hN => .cons ?_ (h4 ι' σ' (fun i g o' hg ho' => ?_) hN)⟩
    · simp only [compsOf, ownR, h3, newRows, hσ]
      simp [State.new]
    · rw [count_eq]
      obtain ⟨h5, h6⟩ := hn 0 _ _ rfl rfl
      rw [Nat.add_zero] at h5 h6
      refine ⟨live_lt h5, fun g hg => ?_⟩
      obtain rfl := live_fun h5 hg
      rw [h6]; exact ⟨hle, rfl⟩
    · rw [hσ, List.length_append, List.length_singleton, Nat.add_assoc, Nat.add_comm 1 i]
      exact hn (i + 1) g o' hg ho'
end
end Go.Proofs.Ytpfjneaoankllaa.Ev

/-! A call: the whole. -/
namespace Go.Proofs.Ytpfjneaoankllaa.Ev
open Go.RowKit
section
variable {cx : Cx} {ι ι' : Lay} {st st1 st2 st3 : State} {ts : Array Value} {w w' : World} {N : Nat → Prop} {ks : List Nat}
/-- Behind a call: what was lent has come back, what was handed over has rows. -/
theorem Ahead.behind (h : Ahead cx w ι st1 st2 ts ks) (gv : List Nat) (hgv : ∀ r ∈ gv, r ∈ ks ∧ ∃ g, live st1.σ r g ∧ g.own = true ∧ g.fr = true)
    (hk : Kp (inM (ks.map ι)) w w') (hlen : st3.σ.length = st1.σ.length) (hts : st3.ts = st1.ts) (hhid : st3.hid = st1.hid)
    (h3 : ∀ r g, live st3.σ r g → (r ∉ ks ∧ live st1.σ r g) ∨ (r ∈ ks ∧ r ∉ gv ∧ Lent w' ι st1 r g))
    (gs : List Reg) (os : List Hand) (T : Nat → Prop) (hT : ∀ k, T k → ∃ r ∈ gv, ∃ a, (ι r).1 = some a ∧ a.block = k) (off : Bool)
    (hgs : gs.length = os.length) (hg : ∀ (i : Nat) g o, gs[i]? = some g → os[i]? = some o → g.own = true ∧ g.fr = true ∧ isVar g.e = false ∧ OwnR w' (Nf w.heap.size T (ArgN cx w ι st1 ks off) os w' true) g.t g.e g.l o)
    (hap : Apart os) (hos : ∀ (i : Nat) (o : Hand) (a : Addr), os[i]? = some o → o.1 = some a → w.heap.size ≤ a.block ∨ T a.block) :
    ∃ ι', Sim cx ι' ⟨st3.ts, st3.hid, st3.σ ++ gs.map some⟩ ts w' ∧
      (∀ (i : Nat) g o, gs[i]? = some g → os[i]? = some o → live (st3.σ ++ gs.map some) (st3.σ.length + i) g ∧ ι' (st3.σ.length + i) = o) ∧
      (∀ fr k, (off = true ∨ fr = true) → Nf w.heap.size T (ArgN cx w ι st1 ks off) os w' fr k → Rdb cx w' ι' (st3.σ ++ gs.map some) fr k) := by
  let ι' : Lay := fun r => if r < st3.σ.length then ι r else (os[r - st3.σ.length]?).getD (none, 0)
  have hold : ∀ r, r < st3.σ.length → ι' r = ι r := fun r hr => if_pos hr
  have hnew : ∀ (i : Nat) o, os[i]? = some o → ι' (st3.σ.length + i) = o := fun i o ho => by
    show (if _ then _ else _) = o
    rw [if_neg (by omega), Nat.add_sub_cancel_left, ho]
    rfl
  have hsplit : ∀ r g, live (st3.σ ++ gs.map some) r g → live st3.σ r g ∨ ∃ i o, r = st3.σ.length + i ∧ gs[i]? = some g ∧ os[i]? = some o := fun r g hl => by
    unfold live at hl ⊢
    rw [List.getElem?_append] at hl
    split at hl
    · exact .inl hl
    · rename_i hge
      rw [List.getElem?_map] at hl
      cases hi : gs[r - st3.σ.length]? with
      | none => rw [hi] at hl; cases hl
      | some g' =>
        rw [hi] at hl
        cases hl
        have hlt := (List.getElem?_eq_some_iff.1 hi).1
        exact .inr ⟨r - st3.σ.length, os[r - st3.σ.length]'(by omega), by omega, hi, List.getElem?_eq_getElem _⟩
  have hTown : ∀ k, T k → k < w.heap.size ∧ inM (ks.map ι) k ∧ cx.New k := fun k hk => by
    obtain ⟨r, hr, a, h1, h2⟩ := hT k hk
    obtain ⟨h4, g, h5, h6, h7⟩ := hgv r hr
    obtain ⟨_, _, _, h8⟩ := (h.sim.regs r g h5).1 h6
    subst h2
    exact ⟨h.sim.ownlt h5 h6 h1, inM_rows.2 ⟨r, h4, a, h1, rfl⟩, (h8.1 a h1).1 h7⟩
  -- rows that lived on
  have hback : ∀ r g, live st3.σ r g → ∃ g1, live st1.σ r g1 ∧ g.own = g1.own ∧ g.e.size = g1.e.size ∧ g.l.length = g1.l.length ∧ r ∉ gv := fun r g hl => by
    rcases h3 r g hl with ⟨h4, h5⟩ | ⟨h4, h5, g1, h6, h7, h8, h9, h10, h11, _⟩
    · exact ⟨g, h5, rfl, rfl, rfl, fun hh => h4 (hgv r hh).1⟩
    · exact ⟨g1, h6, h8.trans h7.symm, h10, h11, h5⟩
  have hM : ∀ k, inM (ks.map ι) k → Own ι st1.σ k := fun k => h.m
  have hown : ∀ k, Own ι' (st3.σ ++ gs.map some) k → (∃ r g a, live st3.σ r g ∧ g.own = true ∧ (ι r).1 = some a ∧ a.block = k) ∨ (∃ (i : Nat) (o : Hand) (a : Addr), os[i]? = some o ∧ o.1 = some a ∧ a.block = k) := fun k ⟨r, g, a, h4, h5, h6, h7⟩ => by
    rcases hsplit r g h4 with h8 | ⟨i, o, rfl, h8, h9⟩
    · rw [hold r (live_lt h8)] at h6
      exact .inl ⟨r, g, a, h8, h5, h6, h7⟩
    · rw [hnew i o h9] at h6
      exact .inr ⟨i, o, a, h9, h6, h7⟩
  have hown' : ∀ k, Own ι' (st3.σ ++ gs.map some) k → k < w.heap.size → Own ι st1.σ k := fun k hk hlt => by
    rcases hown k hk with ⟨r, g, a, h4, h5, h6, h7⟩ | ⟨i, o, a, h4, h5, rfl⟩
    · obtain ⟨g1, h8, h9, _⟩ := hback r g h4
      exact ⟨r, g1, a, h8, by rw [← h9]; exact h5, h6, h7⟩
    · rcases hos i o a h4 h5 with h6 | h6
      · omega
      · exact hM _ (hTown _ h6).2.1
  have ho : On cx ι st1.σ w ι' (st3.σ ++ gs.map some) w' := by
    refine ⟨hk.size, fun k h4 h5 => hown' k h5 h4, fun k h4 h5 => hk.block k h4 fun hm => h5 (hM k hm), by rw [List.length_append, hlen]; omega, fun r g' h4 h5 => ?_⟩
    rcases hsplit r g' h4 with h6 | ⟨i, o, rfl, _⟩
    · obtain ⟨g1, h7, _, h8, h9, _⟩ := hback r g' h6
      exact ⟨g1, h7, hold r (live_lt h6), h8, h9⟩
    · omega
  have far : ∀ r g a, live st3.σ r g → g.own = true → (ι r).1 = some a → ∀ (i : Nat) (o : Hand) (a' : Addr), os[i]? = some o → o.1 = some a' → a.block ≠ a'.block := fun r g a h4 h5 h6 i o a' h7 h8 h9 => by
    obtain ⟨g1, h10, h11, _, _, h12⟩ := hback r g h4
    have hlt := h.sim.ownlt h10 (by rw [← h11]; exact h5) h6
    rcases hos i o a' h7 h8 with h13 | h13
    · omega
    · obtain ⟨r', hr', a2, h14, h15⟩ := hT _ h13
      obtain ⟨_, g', h16, h17, _⟩ := hgv r' hr'
      have := h.sim.apart r r' g1 g' a a2 h10 h16 (by rw [← h11]; exact h5) h17 h6 h14 (h9.trans h15.symm)
      subst this
      exact h12 hr'
  have hrdb : ∀ fr k, (off = true ∨ fr = true) → Nf w.heap.size T (ArgN cx w ι st1 ks off) os w' fr k → Rdb cx w' ι' (st3.σ ++ gs.map some) fr k := fun fr k hof ⟨h4, h5, h6⟩ => by
    refine ⟨h4, fun hk' => ?_, ?_⟩
    · rcases hown k hk' with ⟨r, g, a, h7, h8, h9, rfl⟩ | ⟨i, o, a, h7, h8, h9⟩
      · obtain ⟨g1, h10, h11, _, _, h12⟩ := hback r g h7
        have h8' : g1.own = true := by rw [← h11]; exact h8
        have hlt := h.sim.ownlt h10 h8' h9
        rcases h6 with (h6 | h6) | ⟨h6, h13⟩
        · omega
        · obtain ⟨r', hr', a2, h14, h15⟩ := hT _ h6
          obtain ⟨_, g', h16, h17, _⟩ := hgv r' hr'
          have := h.sim.apart r r' g1 g' a a2 h10 h16 h8' h17 h9 h14 h15.symm
          subst this
          exact h12 hr'
        · rcases hof with hof | hof
          · exact (h13.2.2 hof).2.1 ⟨r, g1, a, h10, h8', h9, rfl⟩
          · rw [hof] at h6; cases h6
      · exact h5 i o a h7 h8 h9
    · rcases h6 with (h6 | h6) | ⟨h6, h13⟩
      · exact .inl (.inl (by have := h.sim.keep.size; unfold Cx.n0; omega))
      · exact .inl (hTown k h6).2.2
      · rcases hof with hof | hof
        · rcases (h13.2.2 hof).2.2 with h14 | ⟨_, h14⟩
          · exact .inl h14
          · exact .inr ⟨h6, h14⟩
        · rw [hof] at h6; cases h6
  refine ⟨ι', ?_, fun i g o h4 h5 => ⟨?_, hnew i o h5⟩, hrdb⟩
  · refine h.sim.on ho ⟨hk.os, hk.tape, hk.output, hk.size, fun k h4 h5 => hk.block k h4 fun hm => h5 (hM k hm)⟩ hts hhid (fun r g hl => ?_) (fun r r' g g' a a' h4 h5 h6 h7 h8 h9 h10 => ?_)
    · rcases hsplit r g hl with h4 | ⟨i, o, rfl, h4, h5⟩
      · rw [hold r (live_lt h4)]
        rcases h3 r g h4 with ⟨h5, h6⟩ | ⟨h5, h6, g1, h7, h8, h9, h10, h11, h12, h13, xs, h14, h15⟩
        · refine (h.sim.regs r g h6).on ho fun hown1 a ha => hk.block _ (h.sim.ownlt h6 hown1 ha) fun hm => ?_
          obtain ⟨r', hr', a', h7, h8⟩ := inM_rows.1 hm
          obtain ⟨g', h9, h10⟩ := h.own r' hr'
          have := h.sim.apart r r' g g' a a' h6 h9 hown1 h10 ha h7 h8.symm
          subst this
          exact h5 hr'
        · refine ⟨fun _ => ⟨xs, h14.flat h13, h15, fun a ha => ?_, VarR.nv (flat_nv h13)⟩, fun hh => by rw [h9] at hh; cases hh⟩
          obtain ⟨_, _, _, h16⟩ := (h.sim.regs r g1 h7).1 h8
          rw [h10]
          exact h16.1 a ha
      · rw [hnew i o h5]
        obtain ⟨h6, h7, hnv, xs, h8, h9⟩ := hg i g o h4 h5
        refine ⟨fun _ => ⟨xs, ?_, h9, fun a ha => ?_, VarR.nv hnv⟩, fun hh => by rw [h6] at hh; cases hh⟩
        · rw [h7]
          exact h8.mono (fun k hk' => hrdb true k (.inr rfl) hk') (fun _ _ => rfl)
        · have : cx.New a.block := by
            rcases hos i o a h5 ha with h10 | h10
            · exact .inl (by have := h.sim.keep.size; unfold Cx.n0; omega)
            · exact (hTown _ h10).2.2
          exact ⟨fun _ => this, .inl this⟩
    · rcases hsplit r g h4 with h11 | ⟨i, o, rfl, h11, h12⟩ <;> rcases hsplit r' g' h5 with h13 | ⟨j, o', rfl, h13, h14⟩
      · rw [hold r (live_lt h11)] at h8
        rw [hold r' (live_lt h13)] at h9
        obtain ⟨g1, h15, h16, _⟩ := hback r g h11
        obtain ⟨g2, h17, h18, _⟩ := hback r' g' h13
        exact h.sim.apart r r' g1 g2 a a' h15 h17 (by rw [← h16]; exact h6) (by rw [← h18]; exact h7) h8 h9 h10
      · rw [hold r (live_lt h11)] at h8
        rw [hnew j o' h14] at h9
        exact absurd h10 (far r g a h11 h6 h8 j o' a' h14 h9)
      · rw [hold r' (live_lt h13)] at h9
        rw [hnew i o h12] at h8
        exact absurd h10.symm (far r' g' a' h13 h7 h9 i o a h12 h8)
      · rw [hnew i o h12] at h8
        rw [hnew j o' h14] at h9
        rw [hap i j o o' a a' h12 h14 h8 h9 h10]
  · unfold live
    rw [List.getElem?_append_right (by omega), Nat.add_sub_cancel_left, List.getElem?_map, h4]
    rfl
end
section
variable {P : Program} {E : Env}
theorem evs_eq (st : State) : ∀ l : List Operand, evs st l = l.map st.ev
  | [] => rfl
  | _ :: l => by simp [evs, evs_eq st l]
theorem rowsOf_mild : ∀ (ps : List PT) (vs : List Val), (ps.all fun p => match p.mode with | .rd => true | .rp => true | _ => false) = true → rowsOf (ps.map PT.mode) vs = []
  | [], _, _ => by simp [rowsOf]
  | p :: ps, vs, h => by
    rw [List.all_cons, Bool.and_eq_true] at h
    have h1 := h.1
    have hp : p.mode = .rd ∨ p.mode = .rp := by
      split at h1
      · exact .inl (by assumption)
      · exact .inr (by assumption)
      · cases h1
    cases vs with
    | nil => rcases hp with hp | hp <;> simp [rowsOf, hp]
    | cons v vs => rcases hp with hp | hp <;> (simp only [List.map_cons, hp, rowsOf]; exact rowsOf_mild ps vs h.2)
theorem mild_grew {k : Con} {l : List Con} {w w' : World} {ι : Lay} {vs : List Val} (hm : mildF (k :: l) = true) (hk : Kp (inM ((rowsOf (k.ps.map PT.mode) vs).map ι)) w w') : Grew w w' := by
  unfold mildF at hm
  rw [List.all_cons, Bool.and_eq_true] at hm
  rw [rowsOf_mild k.ps vs hm.1] at hk
  exact ⟨hk.size, fun n hn => hk.block n hn fun ⟨i, h, a, h1, _⟩ => by simp at h1⟩
theorem call_ok {G : Ground} (h : ∀ f c, c ∈ E.F f → Sound G P f c) {cx : Cx} (hG : Gok G cx) : CallOk cx P E := by
  intro ι st w o a R K r next Q c f ho hcallee hs hd hN hcall
  obtain ⟨x0, hc0, hx0⟩ := hcallee
  have hvs : All2 (VR (CRs cx ι st w)) (evs st c.args.toList) (c.args.toList.map a.eval) := by
    rw [evs_eq]
    induction c.args.toList with
    | nil => exact .nil
    | cons y l ih => exact .cons (hs.ev y) ih
  have hrun : (execOp a.eval o).run P w = (callFunc f (c.args.toList.map a.eval).toArray).run P w := by
    have e1 : (c.args.toList.map a.eval).toArray = c.args.map a.eval := by rw [← Array.toList_map, Array.toArray_toList]
    rw [e1]
    simp [execOp, ho, resolve, hc0, hx0, Deferred.ofValue, invoke]
  have main : ∀ l : List Con, (∀ c ∈ l, Sound G P f c) → callE.go E.T o.type st (evs st c.args.toList) (fun v st' => K (st'.put o.dst v)) l = some r → o.wp P a w (fun a' w' => (mildF l = true → Grew w w') ∧ next a' w') Q := by
    intro l
    induction l with
    | nil => intro _ hh; simp [callE.go] at hh
    | cons k l ih =>
      intro hl hh
      have ih : callE.go E.T o.type st (evs st c.args.toList) (fun v st' => K (st'.put o.dst v)) l = some r → o.wp P a w (fun a' w' => (mildF (k :: l) = true → Grew w w') ∧ next a' w') Q := fun hh => Oper.wp_mono (fun _ _ h => ⟨fun hm => h.1 (by unfold mildF at hm ⊢; rw [List.all_cons, Bool.and_eq_true] at hm; exact hm.2), h.2⟩) (ih (fun c hc => hl c (List.mem_cons_of_mem _ hc)) hh)
      have hsound := hl k (List.mem_cons_self ..)
      simp only [callE.go] at hh
      split at hh
      case h_2 => exact ih hh
      rename_i args hunpk
      obtain ⟨us0, hus0, hvs⟩ := unpk_rel hunpk hvs
      split at hh
      · rename_i st1 hst1
        split at hh
        · rename_i st2 hst2
          split at hh
          · rename_i asx hex
            split at hh
            · rename_i x hx
              rw [Option.bind_eq_some_iff] at hh
              obtain ⟨y, hy, hh⟩ := hh
              rw [resC_eq] at hh
              dsimp only at hh
              split at hh
              · rename_i st3 hst3
                -- ahead
                have hs1 : Sim cx ι st1 a.tmps w ∧ All2 (VR (CRs cx ι st1 w)) args us0 := by
                  cases hal : k.alias with
                  | true =>
                    rw [hal] at hst1
                    obtain ⟨h1, h2, h3⟩ := lockA_sim hs hvs hst1
                    exact ⟨h1, h3⟩
                  | false =>
                    rw [hal] at hst1
                    cases hst1
                    exact ⟨hs, hvs⟩
                obtain ⟨hs1, hvs1⟩ := hs1
                obtain ⟨t1, t2, t3, t4, t5, t6⟩ := takeA_spec hst2
                have hA : Ahead cx w ι st1 st2 a.tmps (rowsOf (k.ps.map PT.mode) args) := ⟨hs1, t1, t2, t3, t4, t5, t6⟩
                have hargs := hA.args (off := k.alias) k.ps hvs1 hex hx
                obtain ⟨r1, r2, r3, r4⟩ := rows_spec k.ps hex
                have hapart : Apart ((rowsOf (k.ps.map PT.mode) args).map ι) := by
                  intro i j h h' b b' h1 h2 h3 h4 h5
                  rw [List.getElem?_map] at h1 h2
                  cases hi : (rowsOf (k.ps.map PT.mode) args)[i]? with
                  | none => rw [hi] at h1; cases h1
                  | some ri =>
                    cases hj : (rowsOf (k.ps.map PT.mode) args)[j]? with
                    | none => rw [hj] at h2; cases h2
                    | some rj =>
                      rw [hi] at h1
                      rw [hj] at h2
                      cases h1
                      cases h2
                      obtain ⟨g1, h6, h7⟩ := t2 ri (List.mem_of_getElem? hi)
                      obtain ⟨g2, h8, h9⟩ := t2 rj (List.mem_of_getElem? hj)
                      have := hs1.apart ri rj g1 g2 b b' h6 h8 h7 h9 h3 h4 h5
                      subst this
                      exact (List.getElem?_inj (List.getElem?_eq_some_iff.1 hi).1 t1).1 (hi.trans hj.symm)
                have hno : ∀ n, cx.N0 n → ¬ Own ι st1.σ n := fun n hn ⟨r', g, b, h1, h2, h3, h4⟩ => by
                  obtain ⟨_, _, _, h5⟩ := (hs1.regs r' g h1).1 h2
                  have h6 := (hG.2 n hn)
                  subst h4
                  rcases (h5.1 b h3).2 with (h7 | h7) | h7
                  · exact absurd h6.1 (Nat.not_lt.2 h7)
                  · exact h6.2 (cx.tm _ h7)
                  · exact h6.2 h7
                have hlt : ∀ n, cx.N0 n → n < w.heap.size := fun n hn => Nat.lt_of_lt_of_le (hG.2 n hn).1 hs1.keep.size
                have hground : G.is w (ArgN cx w ι st1 (rowsOf (k.ps.map PT.mode) args) k.alias) := G.mono _ _ _ _ hG.1
                  (fun n hn => ⟨hlt n hn, fun hm => hno n hn (hA.m hm), fun _ => ⟨hlt n hn, hno n hn, .inr ⟨rfl, hn⟩⟩⟩) (fun n hn => hs1.keep.block n (hG.2 n hn).1 (hG.2 n hn).2)
                have hgives := hsound.calls x y hy w _ us0 _ hargs hapart (fun n hn => ⟨hn.1, hn.2.1⟩) hground
                have hpost : ∀ v w', Post k.rg k.ps k.rs x y w (ArgN cx w ι st1 (rowsOf (k.ps.map PT.mode) args) k.alias) ((rowsOf (k.ps.map PT.mode) args).map ι) v w' → (mildF (k :: l) = true → Grew w w') ∧ next (a.put o.dst v) w' := by
                  intro v w' ⟨us, os, p1, p2, p3, p4, p5, p6⟩
                  refine ⟨fun hm => mild_grew (k := k) (l := l) hm p2, ?_⟩
                  obtain ⟨b1, b2, b3, b4⟩ := giveBack_spec k.ps hex hx hsound.ps p6 hst3
                  obtain ⟨n1, n2⟩ := newRows_spec k.rs p5 hsound.rs
                  obtain ⟨ι', q1, q2, q3⟩ := hA.behind (st3 := st3) (rowsTk (k.ps.map PT.mode) args) r2 p2 (b1.trans t3) (b2.trans t5) (b3.trans t6)
                    (fun r' g hl => by
                      rcases b4 r' g hl with h1 | ⟨h1, h2⟩
                      · exact .inl ⟨((t4 r' g).1 h1).2, ((t4 r' g).1 h1).1⟩
                      · exact .inr ⟨r1 r' h1, r3 t1 r' h1, h2⟩)
                    (newRows k.rs (split (k.rs.map RT.den) y).1) os _ (fun n hn => r4 ι n hn) k.alias n1 n2 p3 p4
                  obtain ⟨cs, m1, m2⟩ := ownR_rel (cx := cx) (alias := k.alias) k.rs (st := st3) p5 hsound.rs
                  have hcells := pkC_rel (g := k.rg) (fun v => trivial) (m2 ι' _ q2 q3)
                  simp only [impR, m1] at hh
                  generalize pkC k.rg cs = cs at hh hcells
                  generalize pkV k.rg us = us at p1 hcells
                  have single : ∀ c0, cs = [c0] → next (a.put o.dst v) w' := fun c0 e0 => by
                    subst e0
                    dsimp only at hh
                    cases hcells with
                    | @cons _ u _ _ h1 h2 =>
                      cases h2
                      cases hi : impV E.T o.type ⟨st3.ts, st3.hid, st3.σ ++ (newRows k.rs (split (k.rs.map RT.den) y).1).map some⟩ (.v c0) with
                      | mk v' st4 =>
                        rw [hi] at hh
                        obtain ⟨ι2, h3, h4, _⟩ := impV_rel q1 (show VR _ (.v c0) u from h1) hi
                        have : v = u := p1
                        subst this
                        exact hN.put h3 hd h4 hh
                  have many : (∀ c0, cs ≠ [c0]) → K ((State.put ⟨st3.ts, st3.hid, st3.σ ++ (newRows k.rs (split (k.rs.map RT.den) y).1).map some⟩ o.dst (.tup cs))) = some r → next (a.put o.dst v) w' := fun hne hK => by
                    have hv : v = .tuple us.toArray := by
                      rw [p1]
                      match us, hcells with
                      | [], _ => rfl
                      | [u], .cons _ .nil => exact absurd rfl (hne _)
                      | _ :: _ :: _, _ => rfl
                    subst hv
                    exact hN.put q1 hd (v := .tup cs) ⟨us.toArray, rfl, by simpa using hcells⟩ hK
                  match cs, single, many, hh with
                  | [c0], single, _, _ => exact single c0 rfl
                  | [], _, many, hh => exact many (fun c0 => by simp) hh
                  | c1 :: c2 :: cs', _, many, hh => exact many (fun c0 => by simp) hh
                rcases hgives with ⟨g1, g2⟩ | ⟨v, w1, g1, g2⟩
                · unfold Oper.wp
                  rw [hrun, hus0, g1]
                  refine g2.mono ?_
                  rintro e w' ⟨v, rfl, hp⟩
                  exact hpost v w' hp
                · unfold Oper.wp
                  rw [hrun, hus0, g1]
                  exact hpost v w1 g2
              · cases hh
            · exact ih hh
          · exact ih hh
        · exact ih hh
      · exact ih hh
  exact main _ (fun c hc => h f c hc) hcall
end
end Go.Proofs.Ytpfjneaoankllaa.Ev

/-! A law: it yields true and leaves all as it was. -/
namespace Go.Proofs.Ytpfjneaoankllaa.Ev
open Go.RowKit
/-- The contracts of a list of functions hold. -/
def AllF (G : Ground) (P : Program) : List (Nat × List Con) → Prop
  | [] => True
  | (f, cs) :: r => (∀ c ∈ cs, Sound G P f c) ∧ AllF G P r
theorem conOf_sound {G : Ground} {P : Program} : ∀ {l : List (Nat × List Con)}, AllF G P l → ∀ f c, c ∈ conOf l f → Sound G P f c
  | [], _, f, c, hc => by simp [conOf, look] at hc
  | (g, cs) :: r, ⟨h1, h2⟩, f, c, hc => by
    unfold conOf at hc
    rw [look_cons] at hc
    by_cases hgf : g = f
    · subst hgf
      rw [if_pos rfl] at hc
      exact h1 c hc
    · rw [if_neg hgf] at hc
      exact conOf_sound h2 f c hc
theorem one_sound {G : Ground} {P : Program} {f : FuncId} {k : Con} (h : Sound G P f k) : ∀ c ∈ [k], Sound G P f c := fun c hc => by
  obtain rfl : c = k := by simpa using hc
  exact h
theorem apart_nil : Apart [] := fun i j h h' a a' h1 => by simp at h1
theorem inM_nil {k : Nat} : ¬ inM [] k := fun ⟨i, h, a, h1, _⟩ => by simp at h1
/-- A law's end: true, and memory below is as it was. -/
theorem Post.law {ps : List PT} {x : Args ps} {y : Res ps [.rd .bool true]} {w : World} {N : Nat → Prop} {v : Value} {w' : World} (h : Post [] ps [.rd .bool true] x y w N [] v w') :
    v = .bool (split ([RT.rd .bool true].map RT.den) y).1 ∧ Below w.heap.size w w' := by
  obtain ⟨us, os, rfl, hk, _, _, hr, _⟩ := h
  obtain ⟨u, r, rfl, h1, h2⟩ := hr
  obtain ⟨rfl, _⟩ := h2
  refine ⟨?_, hk.os, hk.tape, hk.output, hk.size, fun k hlt => hk.block k hlt inM_nil⟩
  have h1 : [u] = [Value.bool _] := h1
  injection h1 with h1
theorem nilS {G : Ground} {P : Program} {f : FuncId} : ∀ c ∈ ([] : List Con), Sound G P f c := fun _ h => by cases h
theorem consS {G : Ground} {P : Program} {f : FuncId} {k : Con} {l : List Con} (h : Sound G P f k) (hl : ∀ c ∈ l, Sound G P f c) : ∀ c ∈ k :: l, Sound G P f c := fun c hc => by
  rcases List.mem_cons.1 hc with rfl | hc
  · exact h
  · exact hl c hc
/-- The parts from number i on. -/
def OkFrom (E : Env) (A : Ann) (n : Nat) (l : List (Bool × Sub × Code)) (i : Nat) : Prop := ∀ j, i ≤ j → j < l.length → OkPart E A n (getP l j)
theorem part_loop {E : Env} {A : Ann} {n : Nat} : ∀ {p : Bool × Sub × Code}, p.1 = true → OkLoop E A n p.2.1 p.2.2 → OkPart E A n p
  | (true, _, _), _, h => h
  | (false, _, _), h, _ => by cases h
theorem part_seq {E : Env} {A : Ann} {n : Nat} : ∀ {p : Bool × Sub × Code}, p.1 = false → OkSeq E A n p.2.1 p.2.2 → OkPart E A n p
  | (false, _, _), _, h => h
  | (true, _, _), h, _ => by cases h
theorem ok_end {E : Env} {A : Ann} {n i : Nat} {l : List (Bool × Sub × Code)} (h : l.length = i) : OkFrom E A n l i := fun j h1 h2 => by omega
theorem ok_loop {E : Env} {A : Ann} {n i : Nat} {l : List (Bool × Sub × Code)} (h1 : (getP l i).1 = true) (h2 : OkLoop E A n (getP l i).2.1 (getP l i).2.2) (h : OkFrom E A n l (i + 1)) : OkFrom E A n l i := fun j h3 h4 => by
  rcases Nat.lt_or_ge i j with h5 | h5
  · exact h j h5 h4
  · obtain rfl : j = i := by omega
    exact part_loop h1 h2
theorem ok_seq {E : Env} {A : Ann} {n i : Nat} {l : List (Bool × Sub × Code)} (h1 : (getP l i).1 = false) (h2 : OkSeq E A n (getP l i).2.1 (getP l i).2.2) (h : OkFrom E A n l (i + 1)) : OkFrom E A n l i := fun j h3 h4 => by
  rcases Nat.lt_or_ge i j with h5 | h5
  · exact h j h5 h4
  · obtain rfl : j = i := by omega
    exact part_seq h1 h2
theorem okAll_of {E : Env} {A : Ann} {n : Nat} : ∀ {l : List (Bool × Sub × Code)}, OkFrom E A n l 0 → OkAll E A n l
  | [], _ => trivial
  | p :: r, h => ⟨h 0 (Nat.le_refl _) (by simp), okAll_of (l := r) fun j _ hj => h (j + 1) (Nat.zero_le _) (by simpa using hj)⟩
/-- A function bears its contract: what was told of it and of what it calls. -/
theorem fn_sound {G : Ground} {P : Program} {T : Tab} {B : List (Nat × Nat)} {V : List Nat} (hT : tabOk P T = true) (hB : bOk P B = true) (hm : P.follows .mixedOrders = true) {l : List (Nat × List Con)} (hl : AllF G P l) {A : Ann} {n : Nat} {f : FuncId} {fn : Func} {c : Con}
    (hf : P.funcs[f]? = some fn) (hname : (fn.name == "runtime.NumGoroutine") = false) (hps : okPs c.ps = true) (hrs : okRs c.alias c.rs = true)
    (hok : OkFrom ⟨T, B, conOf l, V⟩ A n (partsOf A (bodyOf fn)) 0) (hrun : ∀ x, runE ⟨T, B, conOf l, V⟩ A n fn c.pg c.rg c.ps c.rs x = c.f x) : Sound G P f c :=
  run_sound ⟨hT, hB⟩ hm (fun _ hg => call_ok (conOf_sound hl) hg) hf hname hps hrs (okAll_of hok) hrun
theorem fn_calls {G : Ground} {P : Program} {T : Tab} {B : List (Nat × Nat)} {V : List Nat} (hT : tabOk P T = true) (hB : bOk P B = true) (hm : P.follows .mixedOrders = true) {l : List (Nat × List Con)} (hl : AllF G P l) {A : Ann} {n : Nat} {f : FuncId} {fn : Func} {c : Con}
    (hf : P.funcs[f]? = some fn) (hps : okPs c.ps = true)
    (hok : OkFrom ⟨T, B, conOf l, V⟩ A n (partsOf A (bodyOf fn)) 0) (hrun : ∀ x, runE ⟨T, B, conOf l, V⟩ A n fn c.pg c.rg c.ps c.rs x = c.f x)
    (x : Args c.ps) (y : Res c.ps c.rs) (hy : c.f x = some y) (w : World) (vs : List Value) (ha : ArgsR w (fun k => k < w.heap.size) c.ps x vs []) (hg : G.is w (fun k => k < w.heap.size)) :
    Calls P f (pkV c.pg vs).toArray w fun e w' => ∃ v, e = .returned v ∧ Post c.rg c.ps c.rs x y w (fun k => k < w.heap.size) [] v w' :=
  (run_calls ⟨hT, hB⟩ hm (fun _ hg => call_ok (conOf_sound hl) hg) hf hps (okAll_of hok) hrun x y hy w _ vs [] ha apart_nil (fun k hk => ⟨hk, inM_nil⟩) hg).2
end Go.Proofs.Ytpfjneaoankllaa.Ev

/-! Functions that the machine knows by itself, and functions that call themselves. -/
namespace Go.Proofs.Ytpfjneaoankllaa.Ev
open Go.RowKit Go.Proofs
/-- Nothing is told: so nothing is to be shown. -/
theorem none_sound {G : Ground} {P : Program} {f : FuncId} {c : Con} (hps : okPs c.ps = true) (hrs : okRs c.alias c.rs = true) (h : ∀ x, c.f x = none) : Sound G P f c :=
  ⟨hps, hrs, fun x y hy => by rw [h x] at hy; cases hy⟩
abbrev U64 : Ty := .int .u64
/-- Words added, with a carry. -/
def addS (x y c : Int) : Int := (x + y + c) % 18446744073709551616
def addC (x y c : Int) : Int := (x + y + c) / 18446744073709551616
def subS (x y b : Int) : Int := (x - y - b) % 18446744073709551616
def subB (x y b : Int) : Int := if x < y + b then 1 else 0
noncomputable def inC (x y c : Int) (r : Int × Int) : Option (Int × Int) := br (leI 0 x) (br (leI 0 y) (br (leI 0 c) (br (leI c 1) (br (ltI y 18446744073709551616) (some r) none) none) none) none) none
theorem inC_some {x y c : Int} {r s : Int × Int} (h : inC x y c r = some s) : s = r ∧ 0 ≤ x ∧ 0 ≤ y ∧ 0 ≤ c ∧ c ≤ 1 ∧ y < 18446744073709551616 := by
  unfold inC at h
  rw [leI_eq, leI_eq, leI_eq, leI_eq, ltI_eq] at h
  by_cases h1 : 0 ≤ x
  · by_cases h2 : 0 ≤ y
    · by_cases h3 : 0 ≤ c
      · by_cases h4 : c ≤ 1
        · by_cases h5 : y < 18446744073709551616
          · simp [h1, h2, h3, h4, h5, br] at h
            exact ⟨h.symm, h1, h2, h3, h4, h5⟩
          · simp [h1, h2, h3, h4, h5, br] at h
        · simp [h1, h2, h3, h4, br] at h
      · simp [h1, h2, h3, br] at h
    · simp [h1, h2, br] at h
  · simp [h1, br] at h
noncomputable def addCon : Con := ⟨[.rd (.int .u64), .rd (.int .u64), .rd (.int .u64)], [.rd (.int .u64) true, .rd (.int .u64) true], false, fun x => inC x.1 x.2.1 x.2.2 (addS x.1 x.2.1 x.2.2, addC x.1 x.2.1 x.2.2), [], []⟩
noncomputable def subCon : Con := ⟨[.rd (.int .u64), .rd (.int .u64), .rd (.int .u64)], [.rd (.int .u64) true, .rd (.int .u64) true], false, fun x => inC x.1 x.2.1 x.2.2 (subS x.1 x.2.1 x.2.2, subB x.1 x.2.1 x.2.2), [], []⟩
theorem post3 {w : World} {N : Nat → Prop} {x y c u v : Int} {hs : List Hand} :
    Post [] [.rd (.int .u64), .rd (.int .u64), .rd (.int .u64)] [.rd (.int .u64) true, .rd (.int .u64) true] (x, y, c) (u, v) w N hs (.tuple #[.int .u64 u, .int .u64 v]) w :=
  ⟨[.int .u64 u, .int .u64 v], [], rfl, ⟨rfl, rfl, rfl, Nat.le_refl _, fun _ _ _ => rfl⟩, apart_nil, fun i o a h => by simp at h, ⟨_, _, rfl, rfl, _, _, rfl, rfl, rfl, rfl⟩, trivial⟩
section
variable {G : Ground} {P : Program} {f : FuncId} {fn : Func}
theorem add64_sound (hf : P.funcs[f]? = some fn) (hname : (fn.name == "runtime.NumGoroutine") = false) (hb : fn.body.isNone = true) (hn : Extern.findNext fn = none) (he : Extern.find fn = some add64Entry) : Sound G P f addCon := by
  refine ⟨rfl, rfl, fun x y hy w N vs hs ha _ _ _ => ?_⟩
  obtain ⟨x, a, c⟩ := x
  obtain ⟨h1, h2, h3, h4, h5, _⟩ := inC_some hy
  dsimp only at h2 h3 h4 h5
  obtain ⟨_, _, rfl, e1, _, _, rfl, e2, _, _, rfl, e3, rfl, rfl⟩ := ha
  cases e1; cases e2; cases e3
  subst h1
  refine .inr ⟨_, w, ?_, post3⟩
  have hr := (run_callFunc_extern hf hname hb hn he #[.int .u64 x, .int .u64 a, .int .u64 c] w)
  rw [run_add64 x a c h2 h3 h4 h5] at hr
  exact hr
theorem sub64_sound (hf : P.funcs[f]? = some fn) (hname : (fn.name == "runtime.NumGoroutine") = false) (hb : fn.body.isNone = true) (hn : Extern.findNext fn = none) (he : Extern.find fn = some sub64Entry) : Sound G P f subCon := by
  refine ⟨rfl, rfl, fun x y hy w N vs hs ha _ _ _ => ?_⟩
  obtain ⟨x, a, c⟩ := x
  obtain ⟨h1, h2, h3, h4, h5, h6⟩ := inC_some hy
  dsimp only at h2 h3 h4 h5 h6
  obtain ⟨_, _, rfl, e1, _, _, rfl, e2, _, _, rfl, e3, rfl, rfl⟩ := ha
  cases e1; cases e2; cases e3
  subst h1
  refine .inr ⟨_, w, ?_, post3⟩
  obtain ⟨x, rfl⟩ := Int.eq_ofNat_of_zero_le h2
  obtain ⟨a, rfl⟩ := Int.eq_ofNat_of_zero_le h3
  obtain ⟨c, rfl⟩ := Int.eq_ofNat_of_zero_le h4
  have hr := (run_callFunc_extern hf hname hb hn he #[.int .u64 x, .int .u64 a, .int .u64 c] w)
  rw [run_sub64 x a c (by omega)] at hr
  refine hr.trans ?_
  have e1 : (((x + 18446744073709551616 - a - c) % 18446744073709551616 : Nat) : Int) = subS x a c := by unfold subS; omega
  have e2 : ((if x < a + c then 1 else 0 : Nat) : Int) = subB x a c := by unfold subB; split <;> split <;> omega
  rw [e1, e2]
  rfl
end
end Go.Proofs.Ytpfjneaoankllaa.Ev

/-! Arguments opened: what is read at a type bears a datum. -/
namespace Go.Proofs.Ytpfjneaoankllaa.Ev
open Go.RowKit Go.ChangeShapes Go.WideShapes Go.Deep
/-- A datum as it may come in: numbers fit their kinds, lists are of a length that a machine has. -/
def WF : (e : Ty) → e.den → Prop
  | .int k, x => (Lit.int k x).wf = true
  | .bool, _ => True
  | .str, x => x.size ≤ maxLen
  | .unit, _ => True
  | .var _, _ => True
  | .pair a b, x => WF a x.1 ∧ WF b x.2
  | .slice _ e, l => l.length ≤ maxLen ∧ ∀ x ∈ l, WF e x
def opFs (P : Program) (ok : Ty → TypeId → Bool) : Ty → Nat → List Field → Bool
  | e, off, [f] => decide (f.offset = off) && decide (P.cellsOf f.type = e.size) && ok e f.type
  | .pair a b, off, f :: g :: r => decide (f.offset = off) && decide (P.cellsOf f.type = a.size) && ok a f.type && opFs P ok b (off + a.size) (g :: r)
  | _, _, _ => false
def opOk (P : Program) : Nat → Ty → TypeId → Bool
  | 0, _, _ => false
  | n + 1, e, t => match P.underlying t with
    | some (.int k) => decide (e = .int k)
    | some .bool => decide (e = .bool)
    | some .string => decide (e = .str)
    | some (.slice te) => (match e with
      | .slice te' e' => decide (te' = te) && decide (P.cellsOf te = e'.size) && decide (0 < e'.size) && opOk P n e' te
      | _ => false)
    | some (.struct fs) => decide (P.cellsOf t = e.size) && opFs P (opOk P n) e 0 fs.toList
    | _ => false
section
variable {H : Type} {enc : TypeId × Value → H} {P : Program} {w : World}
abbrev Bears (enc : TypeId × Value → H) (P : Program) (w : World) (e : Ty) (t : TypeId) : Prop :=
  ∀ (n : Nat) (cs : List Value) (y : DataW H × List MemPlace), DataW.trod enc P w 0 (fun _ => true) true n t cs = some y → ∃ x : e.den, RD w (fun k => k < w.heap.size) e x cs ∧ WF e x
theorem opFs_bears {ok : Ty → TypeId → Bool} (hk : ∀ e t, ok e t = true → Bears enc P w e t) : ∀ (fs : List Field) (e : Ty) (off : Nat), opFs P ok e off fs = true → ∀ (m : Nat) (cs : List Value), cs.length = off + e.size →
    (∀ f ∈ fs, ∃ y, DataW.trod enc P w 0 (fun _ => true) true m f.type ((cs.drop f.offset).take (P.cellsOf f.type)) = some y) → ∃ x : e.den, RD w (fun k => k < w.heap.size) e x (cs.drop off) ∧ WF e x
  | [], e, off, h, _, _, _, _ => by cases e <;> simp [opFs] at h
  | [f], e, off, h, m, cs, hl, hf => by
    have h : (decide (f.offset = off) && decide (P.cellsOf f.type = e.size) && ok e f.type) = true := by cases e <;> exact h
    simp only [Bool.and_eq_true, decide_eq_true_eq] at h
    obtain ⟨y, hy⟩ := hf f (by simp)
    obtain ⟨x, h1, h2⟩ := hk _ _ h.2 _ _ _ hy
    refine ⟨x, ?_, h2⟩
    have : (cs.drop f.offset).take (P.cellsOf f.type) = cs.drop off := by rw [h.1.1, h.1.2]; exact List.take_of_length_le (by simp; omega)
    rwa [this] at h1
  | f :: g :: r, e, off, h, m, cs, hl, hf => by
    cases e with
    | pair a b =>
      simp only [opFs, Bool.and_eq_true, decide_eq_true_eq] at h
      obtain ⟨⟨⟨h1, h2⟩, h3⟩, h4⟩ := h
      obtain ⟨y, hy⟩ := hf f (by simp)
      obtain ⟨x, h5, h6⟩ := hk _ _ h3 _ _ _ hy
      obtain ⟨z, h7, h8⟩ := opFs_bears hk (g :: r) b (off + a.size) h4 m cs (by rw [hl]; show off + (a.size + b.size) = _; omega) (fun q hq => hf q (by simp only [List.mem_cons] at hq ⊢; exact Or.inr hq))
      refine ⟨(x, z), ⟨_, _, ?_, h5, h7⟩, h6, h8⟩
      rw [h1, h2]
      have := List.take_append_drop a.size (cs.drop off)
      rw [List.drop_drop] at this
      exact this.symm
    | _ => simp [opFs] at h
theorem opOk_bears : ∀ (n : Nat) (e : Ty) (t : TypeId), opOk P n e t = true → Bears enc P w e t
  | 0, _, _, h => by cases h
  | n + 1, e, t, h => by
    unfold opOk at h
    intro m cs y hy
    split at h
    · rename_i k ht
      obtain rfl := of_decide_eq_true h
      obtain ⟨x, rfl, _, h3⟩ := DataW.trod_int ht hy
      exact ⟨x, rfl, h3⟩
    · rename_i ht
      obtain rfl := of_decide_eq_true h
      obtain ⟨x, rfl, _⟩ := DataW.trod_bool ht hy
      exact ⟨x, rfl, trivial⟩
    · rename_i ht
      obtain rfl := of_decide_eq_true h
      obtain ⟨x, rfl, _, h3⟩ := DataW.trod_string ht hy
      exact ⟨x, rfl, h3⟩
    · rename_i te ht
      split at h
      · rename_i te' e'
        simp only [Bool.and_eq_true, decide_eq_true_eq] at h
        obtain ⟨⟨⟨rfl, hC⟩, hpos⟩, hok⟩ := h
        have he : Bears enc P w e' te' := opOk_bears n e' te' hok
        rcases open_slice ht hy with ⟨h0, _⟩ | ⟨a, len, cap, m', n', D, Pl, hcs, _, hl, hm, hmm, _, hi⟩
        · exact ⟨([] : List _), ⟨none, 0, h0, by simp, fun i h => absurd h (by simp)⟩, by simp, fun x hx => by cases hx⟩
        · have hlm : len ≤ m' := by rw [hmm]; split <;> omega
          have : Inhabited e'.den := ⟨e'.zero⟩
          obtain ⟨f, hf⟩ := choose_lt (α := e'.den) (n := len) (p := fun i x => ∃ cs', w.cells? 0 (a.add (i * P.cellsOf te')) (P.cellsOf te') = some cs' ∧ RD w (fun k => k < w.heap.size) e' x cs' ∧ WF e' x) (fun i hi' => by
            obtain ⟨cs', h1, h2⟩ := hi i (by omega)
            obtain ⟨x, h3, h4⟩ := he _ _ _ h2
            exact ⟨x, cs', h1, h3, h4⟩)
          have hlen : ((List.range len).map f).length = len := by simp
          refine ⟨(List.range len).map f, ⟨some a, cap, by rw [hlen]; exact hcs, by rw [hlen]; exact hl, fun i hi' => ?_⟩, by rw [hlen]; omega, fun x hx => ?_⟩
          · have hjl : i < len := by rwa [hlen] at hi'
            obtain ⟨cs', h1, h2, _⟩ := hf i hjl
            obtain ⟨_, hcl, hat⟩ := World.cells?_some h1
            have hx : ((List.range len).map f)[i] = f i := by simp
            rw [hC] at hat hcl
            have hat' : ∀ (j : Nat) u, cs'[j]? = some u → w.cell? (a.add (i * e'.size + j)) = some u := fun j u hu => by
              have hj : j < e'.size := by rw [← hcl]; exact (List.getElem?_eq_some_iff.1 hu).1
              have := hat j hj
              rw [hu, Deep.add_add] at this
              exact this
            refine ⟨a, cs', rfl, ?_, by rw [hx]; exact h2, hat'⟩
            have h0 : (0 : Nat) < cs'.length := by omega
            have := hat' 0 cs'[0] (by rw [List.getElem?_eq_getElem h0])
            exact (show (a.add (i * e'.size + 0)).block = a.block by unfold Addr.add; split <;> rfl) ▸ World.block_lt_of_cell? _ _ this
          · obtain ⟨j, hj, rfl⟩ := List.mem_map.1 hx
            obtain ⟨_, _, _, h4⟩ := hf j (List.mem_range.1 hj)
            exact h4
      · cases h
    · rename_i fs ht
      simp only [Bool.and_eq_true, decide_eq_true_eq] at h
      obtain ⟨xs, m', _, _, hl, hx, hf⟩ := DataW.trod_struct ht hy
      have := opFs_bears (opOk_bears n) fs.toList e 0 h.2 m' cs (by rw [hl, h.1]; simp) (fun f hf' => by
        obtain ⟨i, hi, rfl⟩ := List.mem_iff_getElem.1 hf'
        have hi' : i < fs.size := by simpa using hi
        have hlt : i < xs.length := by omega
        have h2 := hf i fs[i] (by simp [hi'])
        rw [List.getElem?_eq_getElem hlt] at h2
        exact ⟨_, h2⟩)
      simpa using this
    · cases h
theorem opened {n : Nat} {e : Ty} {t : TypeId} (h : opOk P n e t = true) {v : Value} {D : DataW H} {p : List MemPlace} (hv : DataW.Trod enc P w 0 (fun _ => true) true t v D p) : ∃ x : e.den, RD w (fun k => k < w.heap.size) e x v.cells.toList ∧ WF e x := by
  obtain ⟨m, hm⟩ := hv
  exact opOk_bears n e t h _ _ _ hm
def aggT (P : Program) (t : TypeId) : Bool := match P.underlying t with
  | some (.struct _) => true
  | some (.array _ _) => true
  | _ => false
theorem open_rd {n : Nat} {e : Ty} {t : TypeId} {r : Reach} {b0 : Nat} {v : Value} {D : DataW H} {p : List MemPlace} (h : opOk P n e t = true) (ha : aggT P t = false) (hk : Value.okWide P w r b0 t v) (hv : DataW.Trod enc P w 0 (fun _ => true) true t v D p) :
    ∃ x : e.den, RD w (fun k => k < w.heap.size) e x [v] ∧ WF e x := by
  obtain ⟨x, h1, h2⟩ := opened h hv
  refine ⟨x, ?_, h2⟩
  have : v.cells.toList = [v] := by
    cases v with
    | agg us =>
      exfalso
      unfold Value.okWide at hk
      unfold aggT at ha
      split at hk
      · simp_all
      · simp_all
      · rename_i h3 h4
        unfold Cell.okWide at hk
        split at hk <;> first | (unfold Cell.ok at hk; split at hk <;> simp_all) | simp_all
    | _ => rfl
  rwa [this] at h1
theorem open_ag {n : Nat} {e : Ty} {t : TypeId} {r : Reach} {b0 : Nat} {v : Value} {D : DataW H} {p : List MemPlace} (h : opOk P n e t = true) (ha : aggT P t = true) (hk : Value.okWide P w r b0 t v) (hv : DataW.Trod enc P w 0 (fun _ => true) true t v D p) :
    ∃ (x : e.den) (us : Array Value), v = .agg us ∧ RD w (fun k => k < w.heap.size) e x us.toList ∧ WF e x := by
  obtain ⟨x, h1, h2⟩ := opened h hv
  unfold Value.okWide at hk
  unfold aggT at ha
  split at hk
  · obtain ⟨cs, rfl, _⟩ := hk
    exact ⟨x, cs, rfl, h1, h2⟩
  · obtain ⟨cs, rfl, _⟩ := hk
    exact ⟨x, cs, rfl, h1, h2⟩
  · simp_all
end
end Go.Proofs.Ytpfjneaoankllaa.Ev

/-! Small laws of what the reader prints: for the plain proofs. -/
namespace Go.Proofs.Ytpfjneaoankllaa.Ev
theorem br_t {R : Type} (x y : Option R) : br true x y = x := rfl
theorem br_f {R : Type} (x y : Option R) : br false x y = y := rfl
theorem br_if {R : Type} (b : Bool) (x y : Option R) : br b x y = if b = true then x else y := rfl
theorem ltI_t {x y : Int} (h : x < y) : ltI x y = true := (ltI_eq x y).trans (decide_eq_true h)
theorem ltI_f {x y : Int} (h : ¬ x < y) : ltI x y = false := (ltI_eq x y).trans (decide_eq_false h)
theorem leI_t {x y : Int} (h : x ≤ y) : leI x y = true := (leI_eq x y).trans (decide_eq_true h)
theorem leI_f {x y : Int} (h : ¬ x ≤ y) : leI x y = false := (leI_eq x y).trans (decide_eq_false h)
theorem eqI_t {x y : Int} (h : x = y) : eqI x y = true := (eqI_eq x y).trans (decide_eq_true h)
theorem eqI_f {x y : Int} (h : ¬ x = y) : eqI x y = false := (eqI_eq x y).trans (decide_eq_false h)
theorem neI_t {x y : Int} (h : ¬ x = y) : neI x y = true := by rw [neI_eq]; rw [decide_eq_false h]; rfl
theorem neI_f {x y : Int} (h : x = y) : neI x y = false := by rw [neI_eq]; rw [decide_eq_true h]; rfl
theorem ltI_of {x y : Int} (h : ltI x y = true) : x < y := of_decide_eq_true ((ltI_eq x y).symm.trans h)
theorem leI_of {x y : Int} (h : leI x y = true) : x ≤ y := of_decide_eq_true ((leI_eq x y).symm.trans h)
theorem eqI_of {x y : Int} (h : eqI x y = true) : x = y := of_decide_eq_true ((eqI_eq x y).symm.trans h)
theorem ltI_nof {x y : Int} (h : ltI x y = false) : ¬ x < y := of_decide_eq_false ((ltI_eq x y).symm.trans h)
theorem leI_nof {x y : Int} (h : leI x y = false) : ¬ x ≤ y := of_decide_eq_false ((leI_eq x y).symm.trans h)
theorem eqI_nof {x y : Int} (h : eqI x y = false) : ¬ x = y := of_decide_eq_false ((eqI_eq x y).symm.trans h)
theorem agree_self {R : Type} (x : Option R) : agree x x = x := if_pos rfl
theorem bnot_t : bnot true = false := rfl
theorem bnot_f : bnot false = true := rfl
theorem okIx_t {i n : Int} (h : 0 ≤ i) (h' : i < n) : okIx i n = true := decide_eq_true ⟨h, h'⟩
theorem okSl_t {i n : Int} (h : 0 ≤ i) (h' : i ≤ n) : okSl i n = true := decide_eq_true ⟨h, h'⟩
theorem okMake_t {i n : Int} {b : Nat} (h : 0 ≤ i) (h' : i ≤ n) (h2 : n * (b : Int) ≤ 140737488355328) : okMake i n b = true := decide_eq_true ⟨h, h', h2⟩
theorem okApp_t {n b : Nat} (h : n * b ≤ 140737488355328) : okApp n b = true := decide_eq_true h
theorem wrap_in {x : Int} (h : -9223372036854775808 ≤ x) (h' : x ≤ 9223372036854775807) : IntKind.i64.wrap x = x := by rw [IntKind.wrap_i64]; omega
theorem add_in {x y : Int} (h : -9223372036854775808 ≤ x + y) (h' : x + y ≤ 9223372036854775807) : add .i64 x y = x + y := wrap_in h h'
theorem sub_in {x y : Int} (h : -9223372036854775808 ≤ x - y) (h' : x - y ≤ 9223372036854775807) : sub .i64 x y = x - y := wrap_in h h'
theorem mul_in {x y : Int} (h : -9223372036854775808 ≤ x * y) (h' : x * y ≤ 9223372036854775807) : mul .i64 x y = x * y := wrap_in h h'
theorem add_one (i : Nat) (h : i < 4611686018427387904) : add .i64 (i : Int) 1 = ((i + 1 : Nat) : Int) := by rw [add_in (by omega) (by omega)]; omega
theorem nat_cast (i : Nat) : nat (i : Int) = i := by unfold nat; omega
theorem ilen_eq {α : Type} (l : List α) : ilen l = (l.length : Int) := rfl
theorem inat_eq (n : Nat) : inat n = (n : Int) := rfl
theorem llen_eq {α : Type} (l : List α) : llen l = l.length := rfl
theorem rd_at (e : Ty) (l : List e.den) (i : Nat) (h : i < l.length) : rd e l i = l[i] := by unfold rd; simp [h]
theorem boolEq_self (b : Bool) : boolEq b b = true := by cases b <;> rfl
theorem take_set {α : Type} (l : List α) (i : Nat) (v : α) (h : i < l.length) : (l.set i v).take (i + 1) = l.take i ++ [v] := by
  rw [List.take_add_one]
  simp [List.take_set, h, List.set_eq_of_length_le (l := l.take i) (i := i) (a := v) (by simp; omega)]
theorem drop_set {α : Type} (l : List α) (i m : Nat) (v : α) (h : i < m) : (l.set i v).drop m = l.drop m := List.drop_set_of_lt h
/-- How much room is behind a list. -/
def roomN (n : Nat) : Nat := if n % 6 = 5 then 0 else if n % 3 = 0 then 1 else n
theorem roomN_le (n : Nat) : roomN n ≤ n + 1 := by unfold roomN; split <;> (try split) <;> omega
end Go.Proofs.Ytpfjneaoankllaa.Ev

