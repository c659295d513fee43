/- What ShellNumbers' row lists is what its runs begin with. -/
import Derived.Test.YtkmjdfcfcfmkdaaGreatDoorGuk
import Derived.Lib.LaidTab
import Derived.Lib.LaidU8
namespace Go.Proofs.YtkmjdfcfcfmkdaaGreatDoor.X
open Go.RowKit
theorem ifc_of {P : Program} {w : World} {n : String} {d : DataW Unit} {g t : Nat} {ms : Array (String × TypeId)} (h : Lib.VarReads P w n d) (hg : P.globalNamed n = some g) (hty : (P.globals[g]?).map (·.type) = some t) (ht : P.underlying t = some (.interface ms)) :
    ∃ v, w.cell? ⟨g, 0, none⟩ = some v ∧ IfcV v := by
  obtain ⟨g', t', cs, fuel, p, h1, h2, h3, h4⟩ := h
  obtain rfl := Option.some.inj (hg.symm.trans h1)
  obtain rfl := Option.some.inj (hty.symm.trans h2)
  have hc := World.var?_cell hg h3 0
  cases fuel with
  | zero => cases h4
  | succ f =>
    unfold DataW.trod at h4
    rw [ht] at h4
    obtain ⟨l⟩ := cs
    dsimp only at h4
    split at h4
    all_goals first
      | (cases h4; done)
      | (rename_i e; cases e; done)
      | exact ⟨_, hc, .inl rfl⟩
      | exact ⟨_, hc, .inr ⟨_, _, rfl⟩⟩
theorem pow_of {w : World} (h : Lib.VarReads Tryz.prog w "internal/strconv.uint64pow10" (Lib.tabData .u64 Lib.pow10Tab)) {t e : TypeId} {n : Nat} (hty : (Tryz.prog.globals[3]?).map (·.type) = some t)
    (ht : Tryz.prog.underlying t = some (.array n e)) (he : Tryz.prog.underlying e = some (.int .u64)) (hce : Tryz.prog.cellsOf e = 1) (hct : Tryz.prog.cellsOf t = n) :
    ∃ e fz, w.heap[3]? = some (.cells (Lib.pow10Tab.map fun z => Value.int .u64 z).toArray e fz) := by
  obtain ⟨g', t', cs, fuel, p, h1, h2, h3, h4⟩ := h
  obtain rfl := Option.some.inj ((show Tryz.prog.globalNamed "internal/strconv.uint64pow10" = some 3 from by kernel_rfl).symm.trans h1)
  obtain rfl := Option.some.inj (hty.symm.trans h2)
  have hc := Lib.cells_of_tab ht he hce hct h4
  unfold World.var? at h3
  rw [h1, Option.bind_some] at h3
  split at h3
  · rename_i c e' fz hh
    injection h3 with h3
    subst h3
    refine ⟨e', fz, ?_⟩
    rw [hh, ← hc]
  · cases h3
end Go.Proofs.YtkmjdfcfcfmkdaaGreatDoor.X
