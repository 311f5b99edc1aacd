/-
  A listed variable that is a struct of integers: its block. (posthouse/fh.none)
-/
import Derived.Lib.LaidU8
import Derived.MakeChecks
import Derived.KernelRfl
import Derived.Test.YtmnmdlmmeldiiaaGreatDoorProg
namespace Go.Proofs.YtmnmdlmmeldiiaaGreatDoor
open Go

theorem laid_block {P : Program} {w : World} : ∀ {l : List (String × DataW Unit)} {ps : List MemPlace}, DataW.LaidVars P w l ps → (∀ b off, MemPlace.cell b off ∈ ps → ∃ c t, w.heap[b]? = some (.cells c t (0, 0))) →
    ∀ n d, (n, d) ∈ l → ∃ g t cs fuel p, P.globalNamed n = some g ∧ (P.globals[g]?).map (·.type) = some t ∧ DataW.trod (fun _ => ()) P w 0 (fun _ => true) false fuel t cs.toList = some (d, p) ∧ (0 < cs.size → ∃ e, w.heap[g]? = some (.cells cs e (0, 0)))
  | [], _, _, _, _, _, hm => by cases hm
  | (n', d') :: r, ps, h, hc, n, d, hm => by
    obtain ⟨g, t, cs, fuel, p, q, h1, h2, h3, h4, h5, rfl⟩ := h
    rcases List.mem_cons.1 hm with e | e
    · cases e
      refine ⟨g, t, cs, fuel, p, h1, h2, h4, fun h0 => ?_⟩
      obtain ⟨c, e, hg⟩ := hc g 0 (by
        refine List.mem_append_left _ (List.mem_append_left _ ?_)
        exact List.mem_map.2 ⟨0, List.mem_range.2 h0, rfl⟩)
      unfold World.var? at h3
      rw [h1] at h3
      simp only [Option.bind_some, hg, Option.some.injEq] at h3
      subst h3
      exact ⟨e, hg⟩
    · exact laid_block h5 (fun b off hb => hc b off (List.mem_append_right _ hb)) n d e
theorem none_block {w : World} {laid : List (String × DataW Unit)} (hp : (laid.all fun x => x.2.handleName?.isNone) = true) (hm : ("posthouse/fh.none", DataW.agg [.lit (.int .i64 0), .lit (.int .i64 0), .lit (.int .i64 0)]) ∈ laid) (h : laidMetH Tryz.prog laid w) :
    ∃ e, w.heap[0]? = some (.cells #[.int .i64 0, .int .i64 0, .int .i64 0] e (0, 0)) := by
  rw [MakeChecks.laidMetH_plain _ _ _ hp] at h
  obtain ⟨ps, hv, _, hc⟩ := h
  obtain ⟨g, t, cs, fuel, p, h1, h2, h3, h4⟩ := laid_block hv (fun b off hb => (hc b off hb).1) _ _ hm
  have eg : Tryz.prog.globalNamed "posthouse/fh.none" = some 0 := by kernel_rfl
  have hg : g = 0 := Option.some.inj (h1.symm.trans eg)
  subst hg
  have et : (Tryz.prog.globals[0]?).map (·.type) = some 488 := by kernel_rfl
  have ht : t = 488 := Option.some.inj (h2.symm.trans et)
  subst ht
  have hcs := Go.Lib.ints_of_struct (k := .i64) (zs := [0, 0, 0]) Tryz.underlying488 (by
    intro i f hf
    match i, hf with
    | 0, hf => cases hf; exact ⟨Tryz.underlying3, rfl, by kernel_rfl⟩
    | 1, hf => cases hf; exact ⟨Tryz.underlying3, rfl, by kernel_rfl⟩
    | 2, hf => cases hf; exact ⟨Tryz.underlying3, rfl, by kernel_rfl⟩) (by kernel_rfl) h3
  have hc2 : cs = #[.int .i64 0, .int .i64 0, .int .i64 0] := by
    cases cs
    exact congrArg List.toArray hcs
  subst hc2
  exact h4 (by decide)
end Go.Proofs.YtmnmdlmmeldiiaaGreatDoor
