/- Kinds of values that are nested in each other (several types at once): nested so many deep, for some depth; what holds of one depth holds of a greater one. No condition. -/
import Derived.Test.YtpndcfibjjkgcaaWMore
import Derived.Test.YtpndcfibjjkgcaaWFoot
namespace Go.Proofs.YtpndcfibjjkgcaaW.PrintWords
open Go Go.RowKit
namespace Kd
variable {ι : Type} {α : ι → Type}
/-- F says the more of each type, the more its arguments say. -/
structure MonoF {β : Type} (F : (∀ i, Kd (α i)) → Kd β) : Prop where
  sz : ∀ d d' : (∀ i, Kd (α i)), (∀ i, (d i).sz = (d' i).sz) → (F d).sz = (F d').sz
  K : ∀ d d' : (∀ i, Kd (α i)), (∀ i, (d i).sz = (d' i).sz) → (∀ i w x cs, (d i).K w x cs → (d' i).K w x cs) → ∀ w x cs, (F d).K w x cs → (F d').K w x cs
  M : ∀ d d' : (∀ i, Kd (α i)), (∀ i, (d i).sz = (d' i).sz) → (∀ i w base ok x cs, (d i).M w base ok x cs → (d' i).M w base ok x cs) → ∀ w base ok x cs, (F d).M w base ok x cs → (F d').M w base ok x cs
theorem monoF_const {β : Type} (k : Kd β) : MonoF (fun _ : (∀ i, Kd (α i)) => k) := ⟨fun _ _ _ => rfl, fun _ _ _ _ _ _ _ h => h, fun _ _ _ _ _ _ _ _ _ h => h⟩
theorem monoF_at (i : ι) : MonoF (fun d : (∀ i, Kd (α i)) => d i) := ⟨fun _ _ h => h i, fun _ _ _ h => h i, fun _ _ _ h => h i⟩
theorem monoF_slice {β : Type} (e : Nat) {G : (∀ i, Kd (α i)) → Kd β} (hG : MonoF G) : MonoF (fun d => slice e (G d)) := by
  refine ⟨fun _ _ _ => rfl, ?_, ?_⟩
  · rintro d d' hs h w x cs ⟨A, c, rfl, hl, hr⟩
    exact ⟨A, c, rfl, hl, C_imp (hG.sz d d' hs) (hG.K d d' hs h) hr⟩
  · rintro d d' hs h w base ok x cs ⟨v, rfl, hr⟩
    exact ⟨v, rfl, R_imp (hG.sz d d' hs) (hG.M d d' hs h) hr⟩
theorem monoF_pair {β γ : Type} {G : (∀ i, Kd (α i)) → Kd β} {H : (∀ i, Kd (α i)) → Kd γ} (hG : MonoF G) (hH : MonoF H) : MonoF (fun d => pair (G d) (H d)) := by
  refine ⟨fun d d' hs => ?_, ?_, ?_⟩
  · show (G d).sz + (H d).sz = (G d').sz + (H d').sz
    rw [hG.sz d d' hs, hH.sz d d' hs]
  · rintro d d' hs h w x cs ⟨c0, c1, rfl, h0, h1⟩
    exact ⟨c0, c1, rfl, hG.K d d' hs h _ _ _ h0, hH.K d d' hs h _ _ _ h1⟩
  · rintro d d' hs h w base ok x cs ⟨c0, c1, rfl, h0, h1⟩
    exact ⟨c0, c1, rfl, hG.M d d' hs h _ _ _ _ _ h0, hH.M d d' hs h _ _ _ _ _ h1⟩
theorem monoF_iso {β γ : Type} {G : (∀ i, Kd (α i)) → Kd β} (f : γ → β) (hG : MonoF G) : MonoF (fun d => iso (G d) f) :=
  ⟨hG.sz, fun d d' hs h w x cs => hG.K d d' hs h w (f x) cs, fun d d' hs h w base ok x cs => hG.M d d' hs h w base ok (f x) cs⟩
/-- The element types inside stay among E. -/
def SubF {β : Type} (F : (∀ i, Kd (α i)) → Kd β) (E : List Nat) : Prop := ∀ d : (∀ i, Kd (α i)), (∀ i q, q ∈ (d i).E → q ∈ E) → ∀ q, q ∈ (F d).E → q ∈ E
theorem subF_const {β : Type} {E : List Nat} (k : Kd β) (h : ∀ q, q ∈ k.E → q ∈ E) : SubF (fun _ : (∀ i, Kd (α i)) => k) E := fun _ _ => h
theorem subF_at {E : List Nat} (i : ι) : SubF (fun d : (∀ i, Kd (α i)) => d i) E := fun _ h => h i
theorem subF_slice {β : Type} {E : List Nat} (e : Nat) {G : (∀ i, Kd (α i)) → Kd β} (he : e ∈ E) (hG : SubF G E) : SubF (fun d => slice e (G d)) E := fun d h q hq => by
  rcases List.mem_cons.1 hq with rfl | hq
  · exact he
  · exact hG d h q hq
theorem subF_pair {β γ : Type} {E : List Nat} {G : (∀ i, Kd (α i)) → Kd β} {H : (∀ i, Kd (α i)) → Kd γ} (hG : SubF G E) (hH : SubF H E) : SubF (fun d => pair (G d) (H d)) E := fun d h q hq => by
  rcases List.mem_append.1 hq with hq | hq
  · exact hG d h q hq
  · exact hH d h q hq
theorem subF_iso {β γ : Type} {E : List Nat} {G : (∀ i, Kd (α i)) → Kd β} (f : γ → β) (hG : SubF G E) : SubF (fun d => iso (G d) f) E := hG

/-- Types nested in each other: nested at most n deep .. -/
def uptoF (F : (∀ i, Kd (α i)) → ∀ i, Kd (α i)) (sz : ι → Nat) (E : List Nat) : Nat → ∀ i, Kd (α i)
  | 0 => fun i => bot (sz i) E
  | n + 1 => F (uptoF F sz E n)
/-- .. for some n. -/
def fixF (F : (∀ i, Kd (α i)) → ∀ i, Kd (α i)) (sz : ι → Nat) (E : List Nat) (hs : ∀ n i, (uptoF F sz E n i).sz = sz i) (hE : ∀ n i q, q ∈ (uptoF F sz E n i).E → q ∈ E) (i : ι) : Kd (α i) where
  sz := sz i
  E := E
  K := fun w x cs => ∃ n, (uptoF F sz E n i).K w x cs
  M := fun w base ok x cs => ∃ n, (uptoF F sz E n i).M w base ok x cs
  K_len := by
    rintro w x cs ⟨n, h⟩
    rw [(uptoF F sz E n i).K_len h, hs n]
  K_one := by
    rintro w x cs ⟨n, h⟩
    exact (uptoF F sz E n i).K_one h
  K_below := by
    rintro w w1 x cs hb ⟨n, h⟩
    exact ⟨n, (uptoF F sz E n i).K_below hb h⟩
  K_of_M := by
    rintro w base ok x cs ⟨n, h⟩
    exact ⟨n, (uptoF F sz E n i).K_of_M h⟩
  M_mono := by
    rintro w base ok ok' x cs hok ⟨n, h⟩
    exact ⟨n, (uptoF F sz E n i).M_mono hok h⟩
  M_bound := by
    rintro w base ok x cs ⟨n, h⟩
    refine ⟨n, (uptoF F sz E n i).M_mono ?_ ((uptoF F sz E n i).M_bound h)⟩
    rintro k ⟨h2, h3, h4, q, hq, hc⟩
    exact ⟨h2, h3, h4, q, hE n i q hq, hc⟩
  M_move := by
    rintro w w1 base ok x cs hm ⟨n, h⟩
    exact ⟨n, (uptoF F sz E n i).M_move hm h⟩
  M_lower := by
    rintro w base base' ok x cs hb ⟨n, h⟩
    exact ⟨n, (uptoF F sz E n i).M_lower hb h⟩
theorem uptoF_E {F : (∀ i, Kd (α i)) → ∀ i, Kd (α i)} {sz : ι → Nat} {E : List Nat} (h : ∀ i, SubF (fun d => F d i) E) : ∀ n i q, q ∈ (uptoF F sz E n i).E → q ∈ E
  | 0, _, _, hq => hq
  | n + 1, i, q, hq => h i _ (uptoF_E h n) q hq
theorem uptoF_sz {F : (∀ i, Kd (α i)) → ∀ i, Kd (α i)} {sz : ι → Nat} {E : List Nat} (h : ∀ (d : ∀ i, Kd (α i)), (∀ i, (d i).sz = sz i) → ∀ i, (F d i).sz = sz i) : ∀ n i, (uptoF F sz E n i).sz = sz i
  | 0, _ => rfl
  | n + 1, i => h _ (uptoF_sz h n) i
section
variable {F : (∀ i, Kd (α i)) → ∀ i, Kd (α i)} {sz : ι → Nat} {E : List Nat} {hs : ∀ n i, (uptoF F sz E n i).sz = sz i} {hE : ∀ n i q, q ∈ (uptoF F sz E n i).E → q ∈ E} {i : ι}
theorem uptoF_K (hm : ∀ i, MonoF (fun d => F d i)) (hs : ∀ n i, (uptoF F sz E n i).sz = sz i) : ∀ n {i} {w x cs}, (uptoF F sz E n i).K w x cs → (uptoF F sz E (n + 1) i).K w x cs
  | 0, _, _, _, _, h => h.elim
  | n + 1, i, _, _, _, h => (hm i).K _ _ (fun i => by rw [hs n, hs (n + 1)]) (fun _ _ _ _ hk => uptoF_K hm hs n hk) _ _ _ h
theorem uptoF_K_le (hm : ∀ i, MonoF (fun d => F d i)) (hs : ∀ n i, (uptoF F sz E n i).sz = sz i) {n m : Nat} (hnm : n ≤ m) {w x cs} (h : (uptoF F sz E n i).K w x cs) : (uptoF F sz E m i).K w x cs := by
  obtain ⟨j, rfl⟩ := Nat.exists_eq_add_of_le hnm
  induction j with
  | zero => exact h
  | succ j ih => exact uptoF_K hm hs _ (ih (by omega))
theorem fixF_C {n : Nat} {w : World} {A : Option Addr} {m : Nat} {xs : List (α i)} (h : (uptoF F sz E n i).C w A m xs) : (fixF F sz E hs hE i).C w A m xs := C_imp (d' := fixF F sz E hs hE i) (hs n i) (fun w x cs hp => (⟨n, hp⟩ : ∃ n, (uptoF F sz E n i).K w x cs)) h
theorem fixF_C_back (hm : ∀ i, MonoF (fun d => F d i)) {w : World} {A : Option Addr} {m : Nat} {xs : List (α i)} (h : (fixF F sz E hs hE i).C w A m xs) : ∃ n, (uptoF F sz E n i).C w A m xs := by
  rcases Nat.eq_zero_or_pos m with hz | hpos
  · subst hz
    exact ⟨0, h.1, h.2.1, fun hp => absurd hp (Nat.lt_irrefl 0)⟩
  · obtain ⟨ad, e, hc⟩ := h.2.2 hpos
    obtain ⟨N, hN⟩ := bounded (P := fun n j => ∀ p, xs[j]? = some p → ∃ c, c.length = sz i ∧ (uptoF F sz E n i).K w p c ∧ ∀ l u, c[l]? = some u → w.cell? (ad.add (j * sz i + l)) = some u)
      (fun n n' j hnm hp p hj => by
        obtain ⟨c, h1, h2, h3⟩ := hp p hj
        exact ⟨c, h1, uptoF_K_le hm hs hnm h2, h3⟩) xs.length
      (fun j hj => by
        obtain ⟨c, h1, ⟨n, h2⟩, h3⟩ := hc j _ (List.getElem?_eq_getElem hj)
        refine ⟨n, fun p hp => ?_⟩
        rw [List.getElem?_eq_getElem hj] at hp
        injection hp with hp
        rw [← hp]
        exact ⟨c, h1, h2, h3⟩)
    refine ⟨N, h.1, h.2.1, fun _ => ⟨ad, e, fun j p hj => ?_⟩⟩
    rw [hs N]
    exact hN j (List.getElem?_eq_some_iff.1 hj).1 p hj
theorem uptoF_C_le (hm : ∀ i, MonoF (fun d => F d i)) (hs : ∀ n i, (uptoF F sz E n i).sz = sz i) {n m : Nat} (hnm : n ≤ m) {w : World} {A : Option Addr} {l : Nat} {xs : List (α i)} (h : (uptoF F sz E n i).C w A l xs) : (uptoF F sz E m i).C w A l xs := C_imp (by rw [hs n, hs m]) (fun _ _ _ hp => uptoF_K_le hm hs hnm hp) h
end
end Kd
end Go.Proofs.YtpndcfibjjkgcaaW.PrintWords
