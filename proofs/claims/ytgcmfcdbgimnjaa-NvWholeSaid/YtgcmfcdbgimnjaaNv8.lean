/- Words for NvRises: the numbers rise; the memory beside a map. No further condition. -/
import Derived.Test.YtgcmfcdbgimnjaaNv6
import Derived.Test.YtgcmfcdbgimnjaaAct
import Derived.Test.YtgcmfcdbgimnjaaMap
namespace Go.Proofs.Ytgcmfcdbgimnjaa
open Go.RowKit

/-! ### plain -/
abbrev Cn := Int × Int × Int × List Int
structure Pk (cs : List Cn) (next : Int) (f : Int → Option Int) : Prop where
  up : cs.Pairwise (fun a b => a.1 < b.1)
  each : ∀ c ∈ cs, 0 < c.1 ∧ c.1 < next ∧ (Lit.int .i64 c.2.2.1).wf = true ∧ ∀ v, f c.1 = some v → v = c.2.2.1
  dom : ∀ s v, f s = some v → s < next
theorem pair_inj : ∀ {cs : List Cn}, cs.Pairwise (fun a b => a.1 < b.1) → ∀ {a b}, a ∈ cs → b ∈ cs → a.1 = b.1 → a = b := by
  intro cs
  induction cs with
  | nil => intro _ a b ha; simp at ha
  | cons c cs ih =>
    intro h a b ha hb e
    obtain ⟨h1, h2⟩ := List.pairwise_cons.1 h
    rcases List.mem_cons.1 ha with ea | ha'
    · rcases List.mem_cons.1 hb with eb | hb'
      · rw [ea, eb]
      · have := h1 b hb'; rw [ea] at e; omega
    · rcases List.mem_cons.1 hb with eb | hb'
      · have := h1 a ha'; rw [eb] at e; omega
      · exact ih h2 ha' hb' e
theorem Pk.push {cs : List Cn} {next : Int} {f : Int → Option Int} (k : Pk cs next f) (hn : 0 < next) (kd lb : Int) (raw : List Int) (hl : (Lit.int .i64 lb).wf = true) : Pk (cs ++ [(next, kd, lb, raw)]) (next + 1) f := by
  refine ⟨List.pairwise_append.2 ⟨k.up, by simp, fun a ha b hb => ?_⟩, fun c hc => ?_, fun s v hs => by have := k.dom s v hs; omega⟩
  · simp at hb
    subst hb
    exact (k.each a ha).2.1
  · rcases List.mem_append.1 hc with hc | hc
    · obtain ⟨h1, h2, h3, h4⟩ := k.each c hc
      exact ⟨h1, by omega, h3, h4⟩
    · simp at hc
      subst hc
      refine ⟨hn, by show next < next + 1; omega, hl, fun v hv => ?_⟩
      have := k.dom _ v hv
      exact absurd this (by show ¬ next < next; omega)
theorem Pk.keep {l : List Rc} {next : Int} {f : Int → Option Int} (q : Int) (k : Pk (l.map Rc.con) next f) : Pk ((keep q l).map Rc.con) next f := by
  have hs : List.Sublist ((Go.Proofs.Ytgcmfcdbgimnjaa.keep q l).map Rc.con) (l.map Rc.con) := (List.filter_sublist).map _
  exact ⟨k.up.sublist hs, fun c hc => k.each c (hs.subset hc), k.dom⟩
theorem Pk.store {cs : List Cn} {next : Int} {f : Int → Option Int} (k : Pk cs next f) {c : Cn} (hc : c ∈ cs) : Pk cs next (updM f c.1 c.2.2.1) := by
  refine ⟨k.up, fun d hd => ?_, fun s v hs => ?_⟩
  · obtain ⟨h1, h2, h3, h4⟩ := k.each d hd
    refine ⟨h1, h2, h3, fun v hv => ?_⟩
    unfold updM at hv
    split at hv
    · rename_i e
      rw [pair_inj k.up hd hc e]
      injection hv with hv
      exact hv.symm
    · exact h4 v hv
  · unfold updM at hs
    split at hs
    · rename_i e
      rw [e]
      exact (k.each c hc).2.1
    · exact k.dom s v hs

/-! ### the memory beside a map -/
structure NvM (w0 w : World) (g h : Nat) (used : Int) (l : List Rc) (next : Int) (r : Rt) (b n : Nat) (f : Int → Option Int) : Prop where
  nv : NvL w0 w g h used l next r
  im : IM Try.prog 31 3 .u64 w b n f
  far : w0.heap.size ≤ b
section
variable {w0 w w' : World} {g h b n : Nat} {used next : Int} {l : List Rc} {r : Rt} {f : Int → Option Int}
theorem NvM.later (k : NvM w0 w g h used l next r b n f) (hb : Below w.heap.size w w') : NvM w0 w' g h used l next r b n f := ⟨k.nv.later hb, k.im.later hb, k.far⟩
theorem NvM.to {u2 n2 : Int} {l2 : List Rc} {r2 : Rt} {v v2 : Value} (k : NvM w0 w g h used l next r b n f) (hv : NvS w w0.heap.size g h used (-1) v l next r) (t : NvTo w w' w0.heap.size g h v u2 (-1) v2 l2 n2 r2) (hf : l2.length ≤ 1000 ∧ (∀ x ∈ l2, x.raw.length ≤ 1000) ∧ 0 ≤ u2 ∧ u2 ≤ 1000 ∧ 0 ≤ n2 ∧ n2 ≤ 1000) : NvM w0 w' g h u2 l2 n2 r2 b n f :=
  ⟨k.nv.to hv t hf, k.im.fr t.fr (by
    rintro (e | e | e)
    · exact k.im.not_cells hv.own e.symm
    · exact k.im.not_cells hv.pw e.symm
    · exact k.im.not_own hv.row e), k.far⟩
theorem NvM.store {m2 : Nat} {f2 : Int → Option Int} (k : NvM w0 w g h used l next r b n f) (i : IM Try.prog 31 3 .u64 w' b m2 f2) (hg : w.grownBy w' (some b)) : NvM w0 w' g h used l next r b m2 f2 := by
  obtain ⟨v, hv⟩ := k.nv.nv
  have fr : Fr (fun x => (some b : Option Nat) = some x) w w' := Fr.of_grown hg
  refine ⟨⟨⟨v, ⟨hv.own.fr fr (fun e => ?_), hv.pw.fr fr (fun e => ?_), ownsRow_fr hv.row fr (fun x hx e => ?_), fun x hx => ownsRow_fr (hv.data x hx) fr (fun y hy e => ?_)⟩⟩, ?_, k.nv.far, k.nv.few⟩, i, k.far⟩
  · injection e with e; exact k.im.not_cells hv.own e.symm
  · injection e with e; exact k.im.not_cells hv.pw e.symm
  · injection e with e; subst e; exact k.im.not_own hv.row hx
  · injection e with e; subst e; exact k.im.not_own (hv.data x hx) hy
  · exact k.nv.bel.trans (fr.toBelow k.nv.bel.size fun x hx e => by injection e with e; have := k.far; omega)
end
theorem Rw.store {w w' : World} {B b n : Nat} {v : Value} {m : List Rc} {f : Int → Option Int} (k : Rw w B v m) (i : IM Try.prog 31 3 .u64 w b n f) (hg : w.grownBy w' (some b)) : Rw w' B v m := by
  have fr : Fr (fun x => (some b : Option Nat) = some x) w w' := Fr.of_grown hg
  refine ⟨ownsRow_fr k.row fr (fun x hx e => ?_), fun x hx => ownsRow_fr (k.data x hx) fr (fun y hy e => ?_)⟩
  · injection e with e; subst e; exact i.not_own k.row hx
  · injection e with e; subst e; exact i.not_own (k.data x hx) hy
section
variable {w0 w w' : World} {g h b n : Nat} {used next : Int} {l : List Rc} {r : Rt} {f : Int → Option Int}
theorem appM (k : NvM w0 w g h used l next r b n f) (kd lb : Int) (hn : l.length ≤ 999) (hu : used ≤ 999) (hx : next ≤ 999) :
    Calls Try.prog 12 #[.pointer (some ⟨g, 0, none⟩), .int .i64 kd, .int .i64 lb, .slice none 0 0] w fun e w' => ∃ z : Int, e = .returned (.int .i64 z) ∧ ((∃ x, x.con = (next, kd, lb, []) ∧ (l.length : Int) < r.n ∧ NvM w0 w' g h (used + 1) (l ++ [x]) (next + 1) r b n f) ∨ NvM w0 w' g h used l next r b n f) := by
  obtain ⟨v, hv⟩ := k.nv.nv
  obtain ⟨f1, f2, f3, f4, f5, f6⟩ := k.nv.few
  by_cases hf : (l.length : Int) < r.n
  · refine (nvappend_ok _ g h used (-1) v l next r kd lb none [] 0 w hv (Rd.nil _ _) (by simp) (by omega) hf k.nv.bel.size (.inl (by decide)) (by omega) (by omega) f5 (by omega) (fun ad e _ => by cases e)).mono ?_
    rintro e w' ⟨rfl, x, v', hx2, -, ht⟩
    refine ⟨0, rfl, .inl ⟨x, hx2, hf, k.to hv ht ⟨by simp; omega, fun y hy => ?_, by omega, by omega, by omega, by omega⟩⟩⟩
    rcases List.mem_append.1 hy with hy | hy
    · exact f2 y hy
    · simp at hy
      rw [hy, show x.raw = [] from congrArg (fun q => q.2.2.2) hx2]
      simp
  · refine (nvfull_ok _ g h used (-1) v l next r kd lb _ w hv (by omega) (by omega)).mono ?_
    rintro e w' ⟨rfl, m, rfl⟩
    exact ⟨7, rfl, .inr (k.later (below_drewN (Below.refl _ _) m))⟩
theorem comM (k : NvM w0 w g h used l next r b n f) (dur q : Int) (hu : used ≤ 999) :
    Calls Try.prog 11 #[.pointer (some ⟨g, 0, none⟩), .int .u64 dur, .int .u64 q] w fun e w' => e = .returned (.tuple #[]) ∧ NvM w0 w' g h (used + 1) (keep q l) next { r with dur := dur } b n f := by
  obtain ⟨v, hv⟩ := k.nv.nv
  obtain ⟨f1, f2, f3, f4, f5, f6⟩ := k.nv.few
  refine (commit_ok _ g h used (-1) v l next r dur q w hv (by omega) (.inl (by decide)) (by omega) (by omega)).mono ?_
  rintro e w' ⟨rfl, v', ht⟩
  exact ⟨rfl, k.to hv ht ⟨by have := keep_len q l; omega, fun x hx => f2 x ((List.mem_filter.1 hx).1), by omega, by omega, f5, f6⟩⟩
end
end Go.Proofs.Ytgcmfcdbgimnjaa
