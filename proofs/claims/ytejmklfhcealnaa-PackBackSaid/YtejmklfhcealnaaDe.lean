/- A text's sum, reckoned. -/
import Derived.Test.YtejmklfhcealnaaDk
set_option linter.unusedVariables false
set_option linter.unusedSimpArgs false
set_option maxRecDepth 20000
namespace Go.Proofs.Ytejmklfhcealnaa.F

/-- A number that has been reckoned. -/
def forceN {α : Type} (x : Nat) (f : Nat → α) : α := match x with
  | 0 => f 0
  | y + 1 => f (y + 1)
theorem forceN_eq {α : Type} (x : Nat) (f : Nat → α) : forceN x f = f x := by cases x <;> rfl
/-- The words, the last one first. -/
def extR (r : List Nat) : Nat := (r.getD 15 0 + sg0 (r.getD 14 0) + r.getD 6 0 + sg1 (r.getD 1 0)) % 4294967296
def goW : Nat → List Nat → List Nat
  | 0, r => r
  | k + 1, r => forceN (extR r) fun x => goW k (x :: r)
theorem rev_get (f : Nat → Nat) (t i : Nat) (h : i < t) : (((List.range t).map f).reverse).getD i 0 = f (t - 1 - i) := by
  rw [List.getD_eq_getElem?_getD, List.getElem?_reverse (by simpa using h)]
  simp [show t - 1 - i < t by omega]
theorem goW_eq (p : List Nat) : ∀ (k t : Nat), 16 ≤ t → goW k (((List.range t).map (wd p)).reverse) = ((List.range (t + k)).map (wd p)).reverse
  | 0, t, _ => rfl
  | k + 1, t, ht => by
    have hx : extR (((List.range t).map (wd p)).reverse) = wd p t := by
      unfold extR
      rw [rev_get _ _ _ (by omega), rev_get _ _ _ (by omega), rev_get _ _ _ (by omega), rev_get _ _ _ (by omega), wd_hi p t (by omega),
        show t - 1 - 15 = t - 16 by omega, show t - 1 - 14 = t - 15 by omega, show t - 1 - 6 = t - 7 by omega, show t - 1 - 1 = t - 2 by omega]
    have hs : wd p t :: ((List.range t).map (wd p)).reverse = ((List.range (t + 1)).map (wd p)).reverse := by rw [List.range_succ, List.map_append, List.reverse_append]; rfl
    rw [goW, forceN_eq, hx, hs, goW_eq p k (t + 1) (by omega), show t + 1 + k = t + (k + 1) by omega]
def wl (p : List Nat) : List Nat := (goW 48 ((List.range 16).map fun t => ((p.getD (4 * t) 0 * 256 + p.getD (4 * t + 1) 0) * 256 + p.getD (4 * t + 2) 0) * 256 + p.getD (4 * t + 3) 0).reverse).reverse
theorem wl_eq (p : List Nat) : wl p = (List.range 64).map (wd p) := by
  unfold wl
  have e : ((List.range 16).map fun t => ((p.getD (4 * t) 0 * 256 + p.getD (4 * t + 1) 0) * 256 + p.getD (4 * t + 2) 0) * 256 + p.getD (4 * t + 3) 0) = (List.range 16).map (wd p) :=
    List.map_congr_left fun t ht => (wd_lo p t (List.mem_range.1 ht)).symm
  rw [e, goW_eq p 48 16 (by omega), List.reverse_reverse]
def forceS {α : Type} (s : St) (f : St → α) : α := forceN s.a fun a => forceN s.b fun b => forceN s.c fun c => forceN s.d fun d => forceN s.e fun e => forceN s.f fun f' => forceN s.g fun g => forceN s.h fun h => f ⟨a, b, c, d, e, f', g, h⟩
theorem forceS_eq {α : Type} (s : St) (f : St → α) : forceS s f = f s := by simp only [forceS, forceN_eq]
theorem getD_in (l : List Nat) (t : Nat) (h : t < l.length) : l.getD t 0 = l[t] := by rw [List.getD_eq_getElem?_getD, List.getElem?_eq_getElem h]; rfl
def goR : List Nat → List Nat → St → St
  | k :: ks, w :: ws, s => forceS (rnd s k w) fun t => goR ks ws t
  | _, _, s => s
theorem goR_gen (p : List Nat) (s : St) (K : List Nat) (hK : K.length = 64) (hs : ∀ t, rnds s p (t + 1) = rnd (rnds s p t) (K.getD t 0) (wd p t)) :
    ∀ (m t : Nat), t + m = 64 → goR (K.drop t) (((List.range 64).map (wd p)).drop t) (rnds s p t) = rnds s p 64
  | 0, t, h => by
    have e : K.drop t = [] := List.drop_eq_nil_of_le (by omega)
    obtain rfl : t = 64 := by omega
    rw [e]
    generalize List.drop 64 ((List.range 64).map (wd p)) = ws
    generalize rnds s p 64 = v
    cases ws <;> simp only [goR]
  | m + 1, t, h => by
    have h1 : t < K.length := by omega
    have h2 : t < ((List.range 64).map (wd p)).length := by simp; omega
    rw [List.drop_eq_getElem_cons h1, List.drop_eq_getElem_cons h2, goR, forceS_eq, ← getD_in K t h1, List.getElem_map, List.getElem_range, ← hs t]
    exact goR_gen p s K hK hs m (t + 1) (by omega)
theorem goR_eq (p : List Nat) (s : St) : goR Kw ((List.range 64).map (wd p)) s = rnds s p 64 := by
  have := goR_gen p s Kw rfl (fun _ => rfl) 64 0 (by omega)
  rw [List.drop_zero, List.drop_zero, show rnds s p 0 = s from rfl] at this
  exact this
def mixE (s : St) (p : List Nat) : St := addS s (goR Kw (wl p) s)
theorem mixE_eq (s : St) (p : List Nat) : mixE s p = mixS s p := by
  unfold mixE mixS
  rw [wl_eq]
  rw [goR_eq]
theorem abc_pad : [97, 98, 99] ++ padN 3 = [97, 98, 99, 128, 0, 0, 0, 0, 0, 0, 0, 0, 0, 0, 0, 0, 0, 0, 0, 0, 0, 0, 0, 0, 0, 0, 0, 0, 0, 0, 0, 0, 0, 0, 0, 0, 0, 0, 0, 0, 0, 0, 0, 0, 0, 0, 0, 0, 0, 0, 0, 0, 0, 0, 0, 0, 0, 0, 0, 0, 0, 0, 0, 24] := by decide +kernel
theorem abc_mix : mixE beginS [97, 98, 99, 128, 0, 0, 0, 0, 0, 0, 0, 0, 0, 0, 0, 0, 0, 0, 0, 0, 0, 0, 0, 0, 0, 0, 0, 0, 0, 0, 0, 0, 0, 0, 0, 0, 0, 0, 0, 0, 0, 0, 0, 0, 0, 0, 0, 0, 0, 0, 0, 0, 0, 0, 0, 0, 0, 0, 0, 0, 0, 0, 0, 24] =
    ⟨3128432319, 2399260650, 1094795486, 1571693091, 2953011619, 2518121116, 3021012833, 4060091821⟩ := by kernel_rfl
theorem abc_sha : mixes beginS ([97, 98, 99] ++ padN 3) 1 = ⟨3128432319, 2399260650, 1094795486, 1571693091, 2953011619, 2518121116, 3021012833, 4060091821⟩ := by
  rw [abc_pad]
  show mixS beginS (List.take 64 (List.drop (64 * 0) _)) = _
  rw [← mixE_eq]
  exact abc_mix
end Go.Proofs.Ytejmklfhcealnaa.F
