/- The walk of Commit. No further condition. -/
import Derived.Test.YtgcmfcdbgimnjaaNv4
namespace Go.Proofs.Ytgcmfcdbgimnjaa
open Go.RowKit
attribute [local go_sem ↓] Go.wp_at_zero Go.wp_at_succ

set_option maxRecDepth 100000 in
set_option maxHeartbeats 12800000 in
theorem commit_ok (B g h : Nat) (used limit : Int) (v : Value) (l : List Rc) (next : Int) (r : Rt) (dur q : Int) (w : World) (k : NvS w B g h used limit v l next r) (hl : l.length ≤ 100000) (htl : limit < 0 ∨ used < limit) (hu : -9223372036854775808 ≤ used) (hu2 : used < 9223372036854775807) :
    Calls Try.prog 11 #[.pointer (some ⟨g, 0, none⟩), .int .u64 dur, .int .u64 q] w fun e w' => e = .returned (.tuple #[]) ∧ ∃ v', NvTo w w' B g h v (used + 1) limit v' (keep q l) next { r with dur := dur } := by
  obtain ⟨A, c, rfl, -, -⟩ := own_form k.row
  have hA := (Below.refl w.heap.size w).alloc (Nat.le_refl _) (.cells #[.int .u64 q] 31)
  have hK := k.later hA
  have HK := Lib.hid hK
  have HX := Lib.hid (Blk.new w 31 #[.int .u64 q])
  have HF1 : Hid (Fr (fun b => b = g ∨ b = h ∨ (Value.slice A l.length c).ownBlock = some b) w (w.alloc (.cells #[.int .u64 q] 31))) := Lib.hid ((Fr.refl _ w).alloc _)
  have c0 := hK.c 0 (.pointer (some ⟨h, 0, none⟩)) rfl
  have HTK := Lib.hid (tick_ok h used limit _ hK.pw htl hu hu2)
  clear k hA hK htl
  go_enter Try.func11, Try.ntmps11
  go_upto_region 2 with (go_at_call 23; (with_reducible refine HTK.out.mono ?_); rintro e w1 ⟨rfl, hp1, hf1⟩; have HK1 := Lib.hid (HK.out.power hp1 hf1); have HX1 := Lib.hid (HX.out.fr hf1 (Blk.ne_ HX.out HK.out.pw (by decide))); have HFF := Lib.hid (HF1.out.trans (hf1.mono fun b _ e => .inr (.inl e)) fun _ _ e => e); clear hp1 hf1)
  have e10 := HK1.out.c 10 (.int .u64 r.dur) rfl
  have f10 := HK1.out.own.frozen 10
  have hset : Blk (w1.setCell ⟨g, 10, none⟩ (.int .u64 dur)) g 58 (nva h (.slice A l.length c) next { r with dur := dur }) := by
    have h9 := HK1.out.own.set_ 10 (.int .u64 dur)
    simp only [nva, List.setIfInBounds_toArray, List.set_cons_succ, List.set_cons_zero] at h9 ⊢
    exact h9
  have f2 : Fr (· = g) w1 (w1.setCell ⟨g, 10, none⟩ (.int .u64 dur)) := (Fr.refl (· = g) w1).setCell (p := ⟨g, 10, none⟩) (.inl rfl) _
  have HK2 := Lib.hid (HK1.out.self hset f2)
  have HX2 := Lib.hid (HX1.out.fr f2 (Blk.ne_ HX1.out HK1.out.own (by decide)))
  have HF2 := Lib.hid (HFF.out.trans (f2.mono fun b _ e => .inl e) fun _ _ e => e)
  have hmf : ∀ (W : World) (vs : Array Value), (Instr.makeFunc (.func 25) #[] vs).run Try.prog W = .ok (.func (.func 25) #[] vs) W := fun _ _ => rfl
  have e1 := HK2.out.c 1 (.slice A l.length c) rfl
  have HDE := Lib.hid (delete_ok B A c l w.heap.size q _ HK2.out.row hl HX2.out)
  clear hset f2 c0
  go_wp2_with (go_at_call 24; (with_reducible refine HDE.out.mono ?_); rintro e w3 ⟨rfl, hrow3, hf3⟩; have HR3 := Lib.hid hrow3; have HFR3 := Lib.hid hf3; have hg3 := HK2.out.own.fr hf3 HK2.out.rowg; have q1 := hg3.at_ (i := 1) (u := .slice A l.length c) rfl; have fz := hg3.frozen 1; have HG3 := Lib.hid hg3; clear hrow3 hf3 hg3)
  have hset2 : Blk (w3.setCell ⟨g, 1, none⟩ (.slice A (keep q l).length c)) g 58 (nva h (.slice A (keep q l).length c) next { r with dur := dur }) := by
    have h9 := HG3.out.set_ 1 (.slice A (keep q l).length c)
    simp only [nva, List.setIfInBounds_toArray, List.set_cons_succ, List.set_cons_zero] at h9 ⊢
    exact h9
  have f4 : Fr (· = g) w3 (w3.setCell ⟨g, 1, none⟩ (.slice A (keep q l).length c)) := (Fr.refl (· = g) w3).setCell (p := ⟨g, 1, none⟩) (.inl rfl) _
  have hh3 := HK2.out.pw.fr HFR3.out HK2.out.rowh
  have hd3 : Dt w3 B l := fun x hx => ownsRow_fr (HK2.out.data x hx) HFR3.out fun b hb e => own_own_ne HK2.out.row (HK2.out.data x hx) (by decide) b e hb
  go_end0
  refine ⟨rfl, _, ⟨hset2, hh3.fr f4 (fun e => HK2.out.ne e.symm), ?_, ?_⟩, ?_, .inl (by rcases A with _ | a <;> rfl)⟩
  · exact ownsRow_fr HR3.out f4 fun b hb e => own_blk_ne HR3.out HG3.out (by decide) (by rw [hb, e])
  · intro x hx
    have hx' := hd3 x ((List.mem_filter.1 hx).1)
    exact ownsRow_fr hx' f4 fun b hb e => own_blk_ne hx' HG3.out (by decide) (by rw [hb, e])
  · exact (HF2.out.trans (HFR3.out.mono fun b _ e => .inr (.inr e)) fun _ _ e => e).trans (f4.mono fun b _ e => .inl e) fun _ _ e => e
end Go.Proofs.Ytgcmfcdbgimnjaa
