/- WorldDrift: the names and where they lie. -/
import Derived.Test.YtigdbaicoiepiaaGreatDoorKmi
namespace Go.Proofs.YtigdbaicoiepiaaGreatDoor.X
open Go.RowKit S
noncomputable def dsV (i : Nat) : Value := forceN (115 + 256 * (97 + i % 26) + 65536 * (97 + i / 26) + 2013265920) (sb 4)
noncomputable def dsS (i : Nat) : Seg := ⟨19, [.int .i64 (.ofNat i)], [], 21, dsV i, [], 22⟩
noncomputable def dsB : Nat := 288176337567972920217002047503600725695436193075823567857897591603802002229110843783215040323461468347295865632420818616451106899572815586139656989537143580897927338617232723111265759720755669355278922445
noncomputable def dsR : Nat × AO := (21, R [i 0, i 2147483647, i 1, i 1, i 2147483648, i 4294967295, i 2, i 1] 39)
noncomputable def dsT (b : Bool) : Value := iff' b (.tuple ⟨[.agg ⟨[i 2147483648, i 4294967295, i 2, i 1]⟩, tt]⟩) (.tuple ⟨[.agg ⟨[i 0, i 2147483647, i 1, i 1]⟩, tt]⟩)
noncomputable def dsO (j : Nat) : Seg := ⟨18, [l 21 0 2 INF, dsV j], [dsR], 21 + 1, dsT (Nat.testBit dsB j), [], 26⟩
noncomputable def dsSel (f : FuncId) (args : List Value) : Option Seg :=
  bif Nat.beq f 19 then
    match args with
    | [.int .i64 (.ofNat i)] => bif Nat.blt i 676 then some (dsS i) else none
    | _ => none
  else bif Nat.beq f 18 then
    match args with
    | [_, .string s] =>
      match s.data.toList with
      | [_, a, b, _] => forceN ((a.toNat - 97) + 26 * (b.toNat - 97)) fun i => bif Nat.blt i 676 then some (dsO i) else none
      | _ => none
    | _ => none
  else none
end Go.Proofs.YtigdbaicoiepiaaGreatDoor.X
