/- A runner for closed calls, part 1: Xc. -/
import Derived.Control
namespace Go.Proofs.YtdhkebolenbpiaaGreatDoor.X

/-! ### Trees -/
inductive Tr (α : Type) where
  | nil
  | node (l : Tr α) (o : Option α) (r : Tr α)

noncomputable def Tr.get {α : Type} (t : Tr α) : Nat → Option α :=
  Tr.rec (motive := fun _ => Nat → Option α) (fun _ => none)
    (fun _ o _ gl gr n => Nat.rec (motive := fun _ => Option α) o (fun m _ => Bool.rec (motive := fun _ => Option α) (gr (m / 2)) (gl (m / 2)) (Nat.beq (m % 2) 0)) n) t
def Tr.left {α : Type} : Tr α → Tr α | .nil => .nil | .node l _ _ => l
def Tr.right {α : Type} : Tr α → Tr α | .nil => .nil | .node _ _ r => r
def Tr.root {α : Type} : Tr α → Option α | .nil => none | .node _ o _ => o
noncomputable def Tr.setF {α : Type} (v : α) (f : Nat) : Tr α → Nat → Tr α :=
  Nat.rec (motive := fun _ => Tr α → Nat → Tr α) (fun t _ => t)
    (fun _ go t n => Nat.rec (motive := fun _ => Tr α) (.node t.left (some v) t.right)
      (fun m _ => Bool.rec (motive := fun _ => Tr α) (.node t.left t.root (go t.right (m / 2))) (.node (go t.left (m / 2)) t.root t.right) (Nat.beq (m % 2) 0)) n) f
noncomputable def Tr.set {α : Type} (t : Tr α) (n : Nat) (v : α) : Tr α := Tr.setF v (Nat.succ n) t n

noncomputable def nth {α : Type} (l : List α) : Nat → Option α :=
  List.rec (motive := fun _ => Nat → Option α) (fun _ => none) (fun x _ go n => Nat.rec (motive := fun _ => Option α) (some x) (fun m _ => go m) n) l
noncomputable def dropL {α : Type} (n : Nat) : List α → List α :=
  Nat.rec (motive := fun _ => List α → List α) (fun l => l) (fun _ go l => List.rec (motive := fun _ => List α) [] (fun _ t _ => go t) l) n
noncomputable def takeL {α : Type} (n : Nat) : List α → List α :=
  Nat.rec (motive := fun _ => List α → List α) (fun _ => []) (fun _ go l => List.rec (motive := fun _ => List α) [] (fun x t _ => x :: go t) l) n
noncomputable def lenL {α : Type} (l : List α) : Nat := List.rec (motive := fun _ => Nat) 0 (fun _ _ n => Nat.succ n) l
noncomputable def setL {α : Type} (v : α) (l : List α) : Nat → List α :=
  List.rec (motive := fun _ => Nat → List α) (fun _ => []) (fun x t go n => Nat.rec (motive := fun _ => List α) (v :: t) (fun m _ => x :: go m) n) l
noncomputable def appL {α : Type} (l r : List α) : List α := List.rec (motive := fun _ => List α) r (fun x _ t => x :: t) l
noncomputable def sameB (l : List UInt8) : List UInt8 → Bool :=
  List.rec (motive := fun _ => List UInt8 → Bool) (fun m => List.rec (motive := fun _ => Bool) true (fun _ _ _ => false) m)
    (fun x _ go m => List.rec (motive := fun _ => Bool) false (fun y m _ => Bool.rec (motive := fun _ => Bool) false (go m) (Nat.beq x.toNat y.toNat)) m) l
noncomputable def forceL {α β : Type} (l : List α) : (List α → β) → β :=
  List.rec (motive := fun _ => (List α → β) → β) (fun k => k []) (fun x _ go k => go fun t => k (x :: t)) l

/-! ### Objects, state -/
inductive AO where
  | row (cs : List Value) (elem : TypeId) (loose : Bool)
  | obj (o : Obj)
  | tab (cs : List Value)
  | dead
structure St where
  heap : Tr AO
  next : Nat
inductive Rs (α : Type) where
  | ok (a : α) (s : St)
  | no (a b : Nat)
def liftR {α β : Type} (r : Rs α) (k : α → St → Rs β) : Rs β :=
  match r with
  | .ok a s => k a s
  | .no a b => .no a b
def ofO {α β : Type} (o : Option α) (c : Nat) (k : α → Rs β) : Rs β :=
  match o with
  | some a => k a
  | none => .no c 0

/-! ### Values -/
mutual
/-- No address, no function. -/
def flat : Value → Bool
  | .bool _ | .int .. | .string _ | .nilFunc | .nilIface | .pointer none | .slice none .. | .map none => true
  | .iface _ v => flat v
  | .agg ⟨cs⟩ => flats cs
  | _ => false
def flats : List Value → Bool
  | [] => true
  | v :: l => flat v && flats l
end
mutual
noncomputable def same : Value → Value → Bool
  | .bool a, .bool b => a == b
  | .int j a, .int k b => decide (j = k) && decide (a = b)
  | .string a, .string b => sameB a.data.toList b.data.toList
  | .complex j a b, .complex k c d => decide (j = k) && (Nat.beq a c && Nat.beq b d)
  | .float j a, .float k b => decide (j = k) && Nat.beq a b
  | .chan a, .chan b => decide (a = b)
  | .pointer a, .pointer b => decide (a = b)
  | .slice a l c, .slice b m d => decide (a = b) && (Nat.beq l m && Nat.beq c d)
  | .map a, .map b => decide (a = b)
  | .nilFunc, .nilFunc => true
  | .nilIface, .nilIface => true
  | .iface t v, .iface u w => Nat.beq t u && same v w
  | .agg ⟨a⟩, .agg ⟨b⟩ => sames a b
  | .tuple ⟨a⟩, .tuple ⟨b⟩ => sames a b
  | .func f ⟨a⟩ ⟨b⟩, .func g ⟨c⟩ ⟨d⟩ => decide (f = g) && (sames a c && sames b d)
  | _, _ => false
noncomputable def sames : List Value → List Value → Bool
  | [], [] => true
  | v :: l, w :: m => same v w && sames l m
  | _, _ => false
end

section
variable (P : Program) (G : Nat)

/-- What needs no memory. -/
def flatRun {α : Type} : Sem α → Option α
  | .pure a => some a
  | .program k => flatRun (k P)
  | .mark _ k => flatRun k
  | _ => none

def aggT (t : TypeId) : Bool := match P.underlying t with | some (.struct _) | some (.array _ _) => true | _ => false
def okT (t : TypeId) : Bool := match P.underlying t with | some _ => true | _ => false
def szT (t : TypeId) : Option Nat := (P.info? t).map (·.size)
def zeroT (t : TypeId) : Option Value := match (P.info? t).bind (·.zero) with | some z => bif flat z then some z else none | none => none
def bytesT (t : TypeId) : Option Nat := (P.info? t).map (·.bytes)
def elemT (t : TypeId) : Option TypeId := match P.underlying t with | some (.slice e) => some e | some (.array _ e) => some e | _ => none

structure Ac where
  n : Nat
  t : Tr Value
  d : List Nat
noncomputable def ev (a : Ac) : Operand → Value
  | .tmp t => match a.t.get t with | some v => v | none => undef
  | .const v => v
  | .global g => .pointer (some ⟨g, 0, none⟩)
  | .func f => .func (.func f) #[] #[]
noncomputable def put (a : Ac) (dst : Option Tmp) (v : Value) : Ac :=
  match dst with
  | some d => bif Nat.blt d a.n then { a with t := a.t.set d v } else a
  | none => a

inductive Ex where
  | normal | exit (id : Nat) | goto (l : Nat) | ret

def INF : Nat := 2 ^ 64
def isInf (n : Nat) : Bool := Nat.ble (2 ^ 63) n

noncomputable def getRow (s : St) (a : Addr) : Option (List Value × TypeId × Bool) :=
  match s.heap.get a.block with
  | some (.row cs e l) => match a.spot with | none => some (cs, e, l) | some _ => none
  | _ => none
noncomputable def getCells (s : St) (a : Addr) : Option (List Value) :=
  match s.heap.get a.block with
  | some (.row cs _ _) => match a.spot with | none => some cs | some _ => none
  | some (.tab cs) => match a.spot with | none => some cs | some _ => none
  | _ => none
noncomputable def newRow (cs : List Value) (e : TypeId) (loose : Bool) (s : St) : Rs Value :=
  .ok (.pointer (some ⟨s.next, 0, none⟩)) { heap := s.heap.set s.next (.row cs e loose), next := Nat.succ s.next }
noncomputable def setRow (s : St) (b : Nat) (cs : List Value) (e : TypeId) (l : Bool) : St := { heap := s.heap.set b (.row cs e l), next := s.next }

noncomputable def doLoad (t : TypeId) (v : Value) (s : St) : Rs Value :=
  match v with
  | .pointer (some a) =>
    match getCells s a with
    | some cs =>
      bif aggT P t then
        match szT P t with
        | some n => let l := takeL n (dropL a.off cs); bif Nat.beq (lenL l) n then .ok (.agg ⟨l⟩) s else .no 1 0
        | none => .no 2 0
      else bif okT P t then
        match nth cs a.off with
        | some v => .ok v s
        | none => .no 3 0
      else .no 4 0
    | none => .no 5 a.block
  | _ => .no 6 0

def cellOk : Value → Bool
  | .agg _ | .tuple _ => false
  | _ => true
noncomputable def cellsOk (l : List Value) : Bool := List.rec (motive := fun _ => Bool) true (fun v _ b => cellOk v && b) l
def cellsOf : Value → List Value
  | .agg ⟨cs⟩ => cs
  | v => [v]

noncomputable def doStore (t : TypeId) (p v : Value) (s : St) : Rs Value :=
  match p with
  | .pointer (some a) =>
    match getRow s a with
    | some (cs, e, l) =>
      let vs := cellsOf v
      match szT P t with
      | some n =>
        bif (Nat.ble G a.block && cellsOk vs) && (Nat.beq (lenL vs) n && Nat.ble (a.off + n) (lenL cs)) then
          bif Nat.beq n 1 then
            match vs with
            | [v] => .ok undef (setRow s a.block (setL v cs a.off) e l)
            | _ => .no 9 0
          else .ok undef (setRow s a.block (appL (takeL a.off cs) (appL vs (dropL (a.off + n) cs))) e l)
        else .no 10 a.block
      | none => .no 11 0
    | none => .no 12 a.block
  | _ => .no 13 0

noncomputable def fillL (place : Nat → Option (Nat × Nat)) (cells : List Value) : List (Nat × Value) → Option (List Value)
  | [] => some cells
  | (i, v) :: rest =>
    match place i with
    | none => none
    | some (off, size) =>
      let vs := cellsOf v
      bif Nat.beq (lenL vs) size && Nat.ble (off + size) (lenL cells) then fillL place (appL (takeL off cells) (appL vs (dropL (off + size) cells))) rest else none
noncomputable def placesT (t : TypeId) : Option (List (Nat × Nat)) :=
  match P.underlying t with
  | some (.struct fs) => fs.toList.mapM (fun f => (P.info? f.type).map fun i => (f.offset, i.size))
  | _ => none
noncomputable def repL (n : Nat) (l : List Value) : List Value := Nat.rec (motive := fun _ => List Value) [] (fun _ r => appL l r) n

noncomputable def doBuild (t : TypeId) (parts : List (Nat × Value)) (s : St) : Rs Value :=
  ofO (zeroT P t) 14 fun z =>
  match P.underlying t with
  | some (.struct _) =>
    ofO (placesT P t) 15 fun pl =>
    ofO (fillL (fun i => nth pl i) (cellsOf z) parts) 16 fun cs => .ok (.agg ⟨cs⟩) s
  | some (.array _ e) =>
    ofO (szT P e) 17 fun n =>
    ofO (fillL (fun i => some (i * n, n)) (cellsOf z) parts) 18 fun cs => .ok (.agg ⟨cs⟩) s
  | _ => .no 19 0
noncomputable def sliceOf (len cap : Nat) (r : Rs Value) : Rs Value :=
  match r with
  | .ok (.pointer p) s => .ok (.slice p len cap) s
  | _ => .no 20 0
noncomputable def doBuildSlice (t : TypeId) (len : Nat) (parts : List (Nat × Value)) (s : St) : Rs Value :=
  match P.underlying t with
  | some (.slice e) =>
    ofO (szT P e) 21 fun n => ofO (zeroT P e) 22 fun z =>
    bif Nat.ble (len * n) (2 ^ 24) && (Nat.beq (lenL (cellsOf z)) n && !isInf len) then
      ofO (fillL (fun i => some (i * n, n)) (repL len (cellsOf z)) parts) 23 fun cs => sliceOf len len (newRow cs e false s)
    else .no 24 0
  | _ => .no 25 0
noncomputable def doMakeSlice (t : TypeId) (l c : Value) (s : St) : Rs Value :=
  match P.underlying t, l, c with
  | some (.slice e), .int _ l, .int _ c =>
    ofO (szT P e) 26 fun n => ofO (zeroT P e) 27 fun z =>
    bif (decide (0 ≤ l) && decide (l ≤ c)) && (Nat.ble c.toNat 1000000 && Nat.beq (lenL (cellsOf z)) n) then
      ofO (bytesT P e) 28 fun by_ => bif Nat.ble (by_ * 1000000) (2 ^ 40) then
        sliceOf l.toNat c.toNat (newRow (repL c.toNat (cellsOf z)) e false s) else .no 28 1
    else .no 29 0
  | _, _, _ => .no 30 0

noncomputable def doFieldAddr (t : TypeId) (p : Value) (f : Nat) (s : St) : Rs Value :=
  match P.underlying t, p with
  | some (.struct fs), .pointer (some a) =>
    ofO (nth fs.toList f) 31 fun fd => ofO (szT P fd.type) 32 fun n =>
    bif Nat.blt 0 n then .ok (.pointer (some ⟨a.block, a.off + fd.offset, a.spot⟩)) s else .no 33 0
  | _, _ => .no 34 0
noncomputable def doIndexAddr (t : TypeId) (x i : Value) (s : St) : Rs Value :=
  match P.underlying t, x, i with
  | some (.slice e), .slice (some a) len _, .int _ i =>
    ofO (szT P e) 35 fun n => bif decide (0 ≤ i) && decide (i < len) then .ok (.pointer (some ⟨a.block, a.off + i.toNat * n, a.spot⟩)) s else .no 36 0
  | some (.array len e), .pointer (some a), .int _ i =>
    ofO (szT P e) 37 fun n => bif decide (0 ≤ i) && decide (i < len) then .ok (.pointer (some ⟨a.block, a.off + i.toNat * n, a.spot⟩)) s else .no 38 0
  | _, _, _ => .no 39 0
noncomputable def partOf (t : TypeId) (cs : List Value) (off : Nat) (s : St) : Rs Value :=
  bif aggT P t then ofO (szT P t) 40 fun n => .ok (.agg ⟨takeL n (dropL off cs)⟩) s
  else bif okT P t then ofO (nth cs off) 41 fun v => .ok v s else .no 42 0
noncomputable def doField (t : TypeId) (x : Value) (f : Nat) (s : St) : Rs Value :=
  match P.underlying t, x with
  | some (.struct fs), .agg ⟨cs⟩ => ofO (nth fs.toList f) 43 fun fd => partOf P fd.type cs fd.offset s
  | _, _ => .no 44 0

/-! ### Numbers between bounds -/
def mxK : IntKind → Nat
  | .i8 => 127 | .i16 => 32767 | .i32 => 2147483647 | .i64 => 9223372036854775807 | .u8 => 255 | .u16 => 65535 | .u32 => 4294967295 | .u64 => 18446744073709551615
def kindAt : Nat → IntKind
  | 0 => .i8 | 1 => .i16 | 2 => .i32 | 3 => .i64 | 4 => .u8 | 5 => .u16 | 6 => .u32 | _ => .u64
def kindIx : IntKind → Nat
  | .i8 => 0 | .i16 => 1 | .i32 => 2 | .i64 => 3 | .u8 => 4 | .u16 => 5 | .u32 => 6 | .u64 => 7
def two64 : Nat := 18446744073709551616
def rK (c : Nat) : IntKind := kindAt (c % 8)
def rLo (c : Nat) : Nat := c / 8 % two64
def rHi (c : Nat) : Nat := c / 8 / two64
def rCode (k : IntKind) (lo hi : Nat) : Nat := kindIx k + 8 * (lo + two64 * hi)
def sOff (b : Nat) : Nat := (b - 1) % two64
def sLo (b : Nat) : Nat := (b - 1) / two64 % two64
def sHi (b : Nat) : Nat := (b - 1) / two64 / two64
def sCode (off lo hi : Nat) : Nat := 1 + (off + two64 * (lo + two64 * hi))
/-! Numbers and texts that are fields of the symbol's number: codes from FLD on -/
def FLD : Nat := 1099511627776
def nK (n : Nat) : IntKind := kindAt (n / 2 % 8)
def nLo (n : Nat) : Nat := n / 16 % two64
def nHi (n : Nat) : Nat := n / 16 / two64 % two64
def nW (n : Nat) : Nat := n / 16 / two64 / two64 % 128
def nSh (n : Nat) : Nat := n / 16 / two64 / two64 / 128 % 128
def nQ (n : Nat) : Nat := n / 16 / two64 / two64 / 128 / 128
def nCode (k : IntKind) (lo hi w sh q : Nat) : Nat := 2 * (kindIx k + 8 * (lo + two64 * (hi + two64 * (w + 128 * (sh + 128 * q)))))
def isNum (n : Nat) : Bool := Nat.ble FLD n && Nat.beq (n % 2) 0
def isTxt (n : Nat) : Bool := Nat.ble FLD n && Nat.beq (n % 2) 1
/-- A number between bounds, and which (a field from 2 on; 1: the law's own number). -/
def isFld (n : Nat) : Bool := isNum n && (Nat.blt 1 (nQ n) && Nat.ble (nLo n) (nHi n))
def mkN (k : IntKind) (lo hi w sh q i : Nat) : Option Value :=
  bif isFld (nCode k lo hi w sh q) && (decide (nK (nCode k lo hi w sh q) = k) && ((Nat.beq (nLo (nCode k lo hi w sh q)) lo && Nat.beq (nHi (nCode k lo hi w sh q)) hi) && ((Nat.beq (nW (nCode k lo hi w sh q)) w && Nat.beq (nSh (nCode k lo hi w sh q)) sh) && Nat.beq (nQ (nCode k lo hi w sh q)) q))) then some (.complex .f64 i (nCode k lo hi w sh q)) else none
/-- The items of a text: a byte, or (from 256 on) a field that is a small letter, or (from 512 on) a field that is any byte. -/
noncomputable def tIt (n : Nat) : Nat → List Nat := Nat.rec (motive := fun _ => Nat → List Nat) (fun _ => []) (fun _ go d => (d % 1024) :: go (d / 1024)) n
noncomputable def tItems (n : Nat) : List Nat := tIt (n / 2 % 4294967296) (n / 2 / 4294967296 / 4294967296)
def itemV (i d : Nat) : Option Value := bif Nat.blt d 256 then some (.int .u8 (.ofNat d)) else bif Nat.blt d 512 then mkN .u8 97 122 8 0 d i else mkN .u8 0 255 8 0 d i
noncomputable def itemsV (i : Nat) (l : List Nat) : Option (List Value) := List.rec (motive := fun _ => Option (List Value)) (some []) (fun d _ r => match itemV i d, r with | some v, some r => some (v :: r) | _, _ => none) l
def itemP (d : Nat) : Nat × Nat := bif Nat.blt d 256 then (d, d) else bif Nat.blt d 512 then (97, 122) else (0, 255)
noncomputable def itemPs (l : List Nat) : List (Nat × Nat) := List.rec (motive := fun _ => List (Nat × Nat)) [] (fun d _ r => itemP d :: r) l
/-- Cells as the items of a text. -/
def itemOf (i : Nat) (v : Value) : Option Nat :=
  match v with
  | .int .u8 (.ofNat n) => bif Nat.blt n 256 then some n else none
  | .complex .f64 j n => bif Nat.beq j i && (isFld n && Nat.blt 255 (nQ n)) then (match itemV i (nQ n) with | some (.complex .f64 _ m) => bif Nat.beq m n then some (nQ n) else none | _ => none) else none
  | _ => none
noncomputable def itemsOf (i : Nat) (l : List Value) : Option (List Nat) := List.rec (motive := fun _ => Option (List Nat)) (some []) (fun v _ r => match itemOf i v, r with | some d, some r => some (d :: r) | _, _ => none) l
noncomputable def symOf (l : List Value) : Option Nat := List.rec (motive := fun _ => Option Nat) none (fun v _ r => match v with | .complex .f64 i _ => some i | _ => r) l
noncomputable def packI (l : List Nat) : Nat := List.rec (motive := fun _ => Nat) 0 (fun d _ r => d + 1024 * r) l
noncomputable def txtCode (l : List Nat) : Nat := 1 + 2 * (lenL l + 4294967296 * (2147483648 + 4294967296 * packI l))
noncomputable def sameNs (l : List Nat) : List Nat → Bool :=
  List.rec (motive := fun _ => List Nat → Bool) (fun m => List.rec (motive := fun _ => Bool) true (fun _ _ _ => false) m)
    (fun p _ go m => List.rec (motive := fun _ => Bool) false (fun q m _ => Nat.beq p q && go m) m) l
/-- Cells as a text of fields. -/
noncomputable def txtOfFlds (l : List Value) : Option Value :=
  match symOf l with
  | none => none
  | some i => match itemsOf i l with
    | none => none
    | some ds => bif isTxt (txtCode ds) && sameNs (tItems (txtCode ds)) ds then some (.complex .f64 i (txtCode ds)) else none
/-- A text's length. -/
noncomputable def lenC (n : Nat) : Option Nat := bif Nat.blt n FLD then some n else bif isTxt n then some (lenL (tItems n)) else none
/-- A number's kind and bounds. -/
def bnds : Value → Option (IntKind × Nat × Nat)
  | .int k (.ofNat n) => some (k, n, n)
  | .float .f32 c => some (rK c, rLo c, rHi c)
  | .complex .f32 _ b => bif Nat.beq b 0 then none else some (.i64, sLo b, sHi b)
  | .chan none => some (.u8, 0, 255)
  | .chan (some 0) => some (.u32, 0, 4294967295)
  | .complex .f64 _ n => bif isFld n then some (nK n, nLo n, nHi n) else none
  | _ => none
/-- Some number between bounds. -/
def mkR (k : IntKind) (lo hi : Nat) (s : St) : Rs Value :=
  bif Nat.beq lo hi then .ok (.int k (.ofNat lo)) s else
  bif decide (rK (rCode k lo hi) = k) && (Nat.beq (rLo (rCode k lo hi)) lo && Nat.beq (rHi (rCode k lo hi)) hi) then .ok (.float .f32 (rCode k lo hi)) s else .no 47 1
/-- Texts of which not every byte is known: each between bounds. A code holds the length and, byte by byte, the bounds. -/
noncomputable def tD (n : Nat) : Nat → List (Nat × Nat) := Nat.rec (motive := fun _ => Nat → List (Nat × Nat)) (fun _ => []) (fun _ go d => (d % 256, d / 256 % 256) :: go (d / 65536)) n
noncomputable def tL (c : Nat) : List (Nat × Nat) := tD (c / 4 % 4294967296) (c / 17179869184)
noncomputable def tE (l : List (Nat × Nat)) : Nat := List.rec (motive := fun _ => Nat) 0 (fun p _ r => p.1 + 256 * (p.2 + 256 * r)) l
noncomputable def tCode (l : List (Nat × Nat)) : Nat := 4 * (lenL l + 4294967296 * tE l)
noncomputable def tSame (l : List (Nat × Nat)) : List (Nat × Nat) → Bool :=
  List.rec (motive := fun _ => List (Nat × Nat) → Bool) (fun m => List.rec (motive := fun _ => Bool) true (fun _ _ _ => false) m)
    (fun p _ go m => List.rec (motive := fun _ => Bool) false (fun q m _ => (Nat.beq p.1 q.1 && Nat.beq p.2 q.2) && go m) m) l
def ptB (b : UInt8) : Nat × Nat := (b.toNat, b.toNat)
noncomputable def ptsL (l : List UInt8) : List (Nat × Nat) := List.rec (motive := fun _ => List (Nat × Nat)) [] (fun b _ r => ptB b :: r) l
noncomputable def allPt (l : List (Nat × Nat)) : Bool := List.rec (motive := fun _ => Bool) true (fun p _ r => Nat.beq p.1 p.2 && r) l
noncomputable def bytesPt (l : List (Nat × Nat)) : List UInt8 := List.rec (motive := fun _ => List UInt8) [] (fun p _ r => UInt8.ofNat p.1 :: r) l
noncomputable def textOf (v : Value) : Option (List (Nat × Nat)) :=
  match v with
  | .string b => some (ptsL b.data.toList)
  | .float .f64 c => bif Nat.beq (c % 4) 0 then some (tL c) else none
  | .complex .f64 _ n => bif isTxt n then some (itemPs (tItems n)) else none
  | _ => none
noncomputable def mkTxt (l : List (Nat × Nat)) (s : St) : Rs Value :=
  bif allPt l then .ok (.string ⟨⟨bytesPt l⟩⟩) s else
  bif tSame (tL (tCode l)) l then .ok (.float .f64 (tCode l)) s else .no 47 30
/-- Texts that differ for sure. -/
noncomputable def tDiff (l : List (Nat × Nat)) : List (Nat × Nat) → Bool :=
  List.rec (motive := fun _ => List (Nat × Nat) → Bool) (fun m => List.rec (motive := fun _ => Bool) false (fun _ _ _ => true) m)
    (fun p _ go m => List.rec (motive := fun _ => Bool) true (fun q m _ => (Nat.blt p.2 q.1 || Nat.blt q.2 p.1) || go m) m) l
noncomputable def txtOfCell (v : Value) : Option (Nat × Nat) :=
  match v with
  | .int .u8 (.ofNat x) => bif Nat.ble x 255 then some (x, x) else none
  | .float .f32 c => bif decide (rK c = .u8) && Nat.ble (rHi c) 255 then some (rLo c, rHi c) else none
  | .chan none => some (0, 255)
  | _ => none
noncomputable def txtOfCells (l : List Value) : Option (List (Nat × Nat)) :=
  List.rec (motive := fun _ => Option (List (Nat × Nat))) (some []) (fun v _ r => match txtOfCell v, r with | some p, some r => some (p :: r) | _, _ => none) l
def mkS (i off lo hi : Nat) (s : St) : Rs Value :=
  bif Nat.beq (sOff (sCode off lo hi)) off && (Nat.beq (sLo (sCode off lo hi)) lo && Nat.beq (sHi (sCode off lo hi)) hi) then .ok (.complex .f32 i (sCode off lo hi)) s else .no 47 2
noncomputable def doIndex (t : TypeId) (x i : Value) (s : St) : Rs Value :=
  match P.underlying t, x, i with
  | some (.array len e), .agg ⟨cs⟩, .int _ i => ofO (szT P e) 45 fun n => bif decide (0 ≤ i) && decide (i < len) then partOf P e cs (i.toNat * n) s else .no 45 1
  | some (.string), .string b, .int _ i => bif decide (0 ≤ i) then ofO (nth b.data.toList i.toNat) 45 fun c => .ok (.int .u8 c.toNat) s else .no 45 2
  | some (.string), .float .f64 c, .int _ i => bif Nat.beq (c % 4) 0 && decide (0 ≤ i) then ofO (nth (tL c) i.toNat) 45 fun p => mkR .u8 p.1 p.2 s else .no 45 4
  | some (.string), .complex .f64 i n, .int _ j => bif isTxt n && decide (0 ≤ j) then ofO (nth (tItems n) j.toNat) 45 fun d => ofO (itemV i d) 45 fun v => .ok v s else .no 45 5
  | _, _, _ => .no 45 3

/-- Held against nil. -/
def nilEq (t : TypeId) (a b : Value) : Option Bool :=
  match P.underlying t, a, b with
  | some (.pointer _), .pointer none, .pointer y => some y.isNone
  | some (.pointer _), .pointer (some _), .pointer none => some false
  | some (.slice _), .slice none _ _, .slice y _ _ => some y.isNone
  | some (.slice _), .slice (some _) _ _, .slice none _ _ => some false
  | some (.map _ _), .map none, .map y => some y.isNone
  | some (.map _ _), .map (some _), .map none => some false
  | some (.func _ _ _), .nilFunc, .func .. => some false
  | some (.func _ _ _), .func .., .nilFunc => some false
  | some (.interface _), .nilIface, .iface .. => some false
  | some (.interface _), .iface .., .nilIface => some false
  | _, _, _ => none

def ltI : Int → Int → Bool
  | .ofNat a, .ofNat b => Nat.ble (Nat.succ a) b
  | .negSucc _, .ofNat _ => true
  | .ofNat _, .negSucc _ => false
  | .negSucc a, .negSucc b => Nat.ble (Nat.succ b) a
def cmpI (op : BinOp) (a b : Value) : Option Bool :=
  match a, b with
  | .int k x, .int k' y =>
    match op with
    | .lss => bif decide (k = k') then some (ltI x y) else none
    | .gtr => bif decide (k = k') then some (ltI y x) else none
    | .leq => bif decide (k = k') then some (!ltI y x) else none
    | .geq => bif decide (k = k') then some (!ltI x y) else none
    | _ => none
  | _, _ => none
/-- Texts of letters held against each other. -/
def strEq (t : TypeId) (a b : Value) : Option Bool :=
  match P.underlying t, a, b with
  | some (.string), .complex .f64 i n, .complex .f64 j m => bif (Nat.beq i j && Nat.beq n m) && !isNum n then some true else none
  | some (.string), .complex .f64 _ n, .string b => bif Nat.ble FLD n || Nat.beq n b.size then none else some false
  | some (.string), .string b, .complex .f64 _ n => bif Nat.ble FLD n || Nat.beq n b.size then none else some false
  | _, _, _ => none
def absEq (t : TypeId) (a b : Value) : Option Bool :=
  match nilEq P t a b with
  | some r => some r
  | none => strEq P t a b
def ltR (la ha lb hb : Nat) : Option Bool := bif Nat.blt ha lb then some true else bif Nat.ble hb la then some false else none
def eqR (la ha lb hb : Nat) : Option Bool := bif Nat.blt ha lb || Nat.blt hb la then some false else bif (Nat.beq la ha && Nat.beq lb hb) && Nat.beq la lb then some true else none
def cmpR (op : BinOp) (la ha lb hb : Nat) : Option Bool :=
  match op with
  | .lss => ltR la ha lb hb
  | .gtr => ltR lb hb la ha
  | .leq => (ltR lb hb la ha).map (!·)
  | .geq => (ltR la ha lb hb).map (!·)
  | .eql => eqR la ha lb hb
  | .neq => (eqR la ha lb hb).map (!·)
  | _ => none
/-- The first is above, the second below zero. -/
def cmpUp : BinOp → Option Bool
  | .lss | .leq | .eql => some false
  | .gtr | .geq | .neq => some true
  | _ => none
def cmpDn : BinOp → Option Bool
  | .lss | .leq | .neq => some true
  | .gtr | .geq | .eql => some false
  | _ => none
def upTo (n : Nat) : Nat := 2 ^ (Nat.log2 n + 1) - 1
def arR (op : BinOp) (k : IntKind) (la ha lb hb : Nat) (s : St) : Rs Value :=
  bif !(Nat.ble ha (mxK k) && Nat.ble hb (mxK k)) then .no 47 3 else
  match op with
  | .add => bif Nat.ble (ha + hb) (mxK k) then mkR k (la + lb) (ha + hb) s else .no 47 4
  | .sub => bif Nat.ble hb la then mkR k (la - hb) (ha - lb) s else .no 47 5
  | .mul => bif Nat.ble (ha * hb) (mxK k) then mkR k (la * lb) (ha * hb) s else .no 47 6
  | .quo => bif Nat.blt 0 lb then mkR k (la / hb) (ha / lb) s else .no 47 7
  | .rem => bif Nat.blt ha lb then mkR k la ha s else bif Nat.blt 0 lb then mkR k 0 (hb - 1) s else .no 47 8
  | .and => mkR k 0 (Nat.min ha hb) s
  | .or => bif Nat.ble (upTo (Nat.max ha hb)) (mxK k) then mkR k 0 (upTo (Nat.max ha hb)) s else .no 47 9
  | .xor => bif Nat.beq hb 0 then mkR k la ha s else bif Nat.ble (upTo (Nat.max ha hb)) (mxK k) then mkR k 0 (upTo (Nat.max ha hb)) s else .no 47 10
  | _ => .no 47 11
def shR (op : BinOp) (k : IntKind) (la ha n : Nat) (s : St) : Rs Value :=
  bif !(Nat.ble ha (mxK k) && Nat.ble n 63) then .no 47 12 else
  match op with
  | .shr => bif Nat.blt n k.bits then mkR k (la / 2 ^ n) (ha / 2 ^ n) s else .no 47 13
  | .shl => bif Nat.blt n k.bits && Nat.ble (ha * 2 ^ n) (mxK k) then mkR k (la * 2 ^ n) (ha * 2 ^ n) s else .no 47 14
  | _ => .no 47 15
/-- A symbol with a number added or taken off. -/
def symBin (op : BinOp) (i b : Nat) (n : Nat) : Option (Nat × Nat × Nat × Nat) :=
  bif Nat.beq b 0 then none else
  match op with
  | .add => bif Nat.ble (sHi b + n) 9223372036854775807 then some (i, sOff b + n, sLo b + n, sHi b + n) else none
  | .sub => bif Nat.ble n (sOff b) && (Nat.ble n (sLo b) && Nat.ble (sHi b) 9223372036854775807) then some (i, sOff b - n, sLo b - n, sHi b - n) else none
  | _ => none
/-- Numbers of which not all is known. -/
def rngBin (op : BinOp) (a b : Value) (s : St) : Rs Value :=
  match bnds a, bnds b with
  | some (k, la, ha), some (k', lb, hb) =>
    match op with
    | .shr | .shl => bif Nat.beq lb hb then shR op k la ha lb s else .no 47 16
    | _ =>
      bif !decide (k = k') then .no 47 17 else
      match cmpR op la ha lb hb with
      | some r => .ok (.bool r) s
      | none => arR op k la ha lb hb s
  | _, _ => .no 47 18
def anyBin (op : BinOp) (a b : Value) (s : St) : Rs Value :=
  match a, b with
  | .complex .f32 i x, .int .i64 (.ofNat n) =>
    match symBin op i x n with
    | some (i, off, lo, hi) => mkS i off lo hi s
    | none => rngBin op a b s
  | .complex .f32 i x, .complex .f32 j y =>
    bif Nat.beq i j then
      match cmpR op (sOff x) (sOff x) (sOff y) (sOff y) with
      | some r => .ok (.bool r) s
      | none => rngBin op a b s
    else rngBin op a b s
  | x, .int k (.negSucc _) =>
    match bnds x, cmpUp op with
    | some (k', _, _), some r => bif decide (k' = k) then .ok (.bool r) s else .no 47 19
    | _, _ => .no 47 20
  | .int k (.negSucc _), y =>
    match bnds y, cmpDn op with
    | some (k', _, _), some r => bif decide (k' = k) then .ok (.bool r) s else .no 47 21
    | _, _ => .no 47 22
  | _, _ => rngBin op a b s
def isC : Value → Bool | .complex .f32 _ _ => true | _ => false
/-- A number and a symbol: the symbol first. -/
def anyBinS (op : BinOp) (a b : Value) (s : St) : Rs Value :=
  match op, a with
  | .add, .int .i64 (.ofNat _) => bif isC b then anyBin .add b a s else anyBin .add a b s
  | .sub, .complex .f32 i x =>
    match b with
    | .complex .f32 j y => bif Nat.beq i j && (Nat.ble (sOff y) (sOff x) && Nat.ble (sOff x) 9223372036854775807) then .ok (.int .i64 (.ofNat (sOff x - sOff y))) s else anyBin .sub a b s
    | b => anyBin .sub a b s
  | op, a => anyBin op a b s
/-- A field as a number of another kind; shifted. -/
def fldConv (dst : IntKind) (i n : Nat) : Option Value :=
  bif Nat.ble (nHi n) (mxK dst) then mkN dst (nLo n) (nHi n) (nW n) (nSh n) (nQ n) i
  else bif decide (dst = .u8) && ((Nat.beq (nLo n) 0 && Nat.beq (nHi n + 1) (2 ^ nW n)) && Nat.ble 8 (nW n)) then mkN .u8 0 255 8 (nSh n) (nQ n) i else none
def fldShr (i n k : Nat) : Option Value :=
  bif (Nat.beq (nLo n) 0 && Nat.beq (nHi n + 1) (2 ^ nW n)) && (Nat.blt k (nW n) && Nat.blt k (nK n).bits) then mkN (nK n) 0 (2 ^ (nW n - k) - 1) (nW n - k) (nSh n + k) (nQ n) i else none
/-- The law's own number; held against 676; with a small number added. -/
def cK : Nat := nCode .i64 0 0 0 0 1
def cR (m : Nat) : Nat := nCode .i64 m 0 0 1 1
/-- A number below -1. -/
def cE : Nat := nCode .i64 0 0 0 2 1
def isNeg (n : Nat) : Bool := isNum n && (Nat.beq (nQ n) 1 && Nat.beq (nSh n) 2)
def okR (m n : Nat) : Bool := isNum n && ((Nat.beq (nQ n) 1 && Nat.beq (nSh n) 1) && Nat.beq (nLo n) m)
def fldBin (op : BinOp) (a b : Value) (s : St) : Option (Rs Value) :=
  match op, a, b with
  | .rem, .complex .f64 i n, .int .i64 (.ofNat m) => bif (Nat.beq n cK && Nat.beq m 676) && okR 0 (cR 0) then some (.ok (.complex .f64 i (cR 0)) s) else none
  | .add, .complex .f64 i n, .int .i64 (.ofNat m) => bif (okR 0 n && Nat.ble m 100) && okR m (cR m) then some (.ok (.complex .f64 i (cR m)) s) else none
  | .shr, .complex .f64 i n, .int _ (.ofNat m) => bif isFld n then (fldShr i n m).map fun v => .ok v s else none
  | op, .complex .f64 _ n, .int .i64 y => bif isNeg n && decide (-1 ≤ y) then (cmpDn op).map fun r => .ok (.bool r) s else none
  | op, .int .i64 y, .complex .f64 _ n => bif isNeg n && decide (-1 ≤ y) then (cmpUp op).map fun r => .ok (.bool r) s else none
  | _, _, _ => none
/-- A number of another kind. -/
def convR (dst : IntKind) (x : Value) (s : St) : Rs Value :=
  match bnds x with
  | some (_, lo, hi) => bif Nat.ble hi (mxK dst) then mkR dst lo hi s else bif decide (dst = .u8) then .ok (.chan none) s else .no 47 23
  | none => .no 47 24
noncomputable def convF (dst : IntKind) (x : Value) (s : St) : Rs Value :=
  match x with
  | .complex .f64 i n => bif isFld n then (match fldConv dst i n with | some v => .ok v s | none => convR dst x s) else convR dst x s
  | x => convR dst x s
def isSym : Value → Bool
  | .complex .f32 _ b => !Nat.beq b 0 && Nat.ble (sHi b) 9223372036854775807
  | _ => false
/-- Two cells that hold numbers: are they equal? -/
def cellEq (a b : Value) : Option Bool :=
  match a, b with
  | .int k x, .int k' y => bif decide (k = k') then some (decide (x = y)) else none
  | .complex .f32 i x, .complex .f32 j y => bif Nat.beq i j then some (Nat.beq (sOff x) (sOff y)) else none
  | .complex .f64 i n, .complex .f64 j m => bif (Nat.beq i j && Nat.beq n m) && isFld n then some true else none
  | a, b =>
    match bnds a, bnds b with
    | some (k, la, ha), some (k', lb, hb) => bif decide (k = k') then eqR la ha lb hb else none
    | _, _ => none
/-- Two cells that hold texts: are they equal? -/
noncomputable def keyEq (a b : Value) : Option Bool :=
  match a, b with
  | .string x, .string y => some (sameB x.data.toList y.data.toList)
  | .complex .f64 i n, .complex .f64 j m =>
    bif (Nat.beq i j && Nat.beq n m) && isTxt n then some true else
    match textOf (.complex .f64 i n), textOf (.complex .f64 j m) with | some l, some m => bif tDiff l m then some false else none | _, _ => none
  | a, b => match textOf a, textOf b with | some l, some m => bif tDiff l m then some false else none | _, _ => none
noncomputable def fEq1 (go : List Value → List Value → List Field → Option Bool) (f : Field) (as bs : List Value) : Option Bool :=
  match P.underlying f.type, nth as f.offset, nth bs f.offset with
  | some (.int _), some a, some b => cellEq a b
  | some (.string), some a, some b => keyEq a b
  | some (.struct fs), _, _ => bif P.stoodInHeld f.type then none else
    match szT P f.type with
    | some n => go (takeL n (dropL f.offset as)) (takeL n (dropL f.offset bs)) fs.toList
    | none => none
  | _, _, _ => none
noncomputable def fEq (d : Nat) : List Value → List Value → List Field → Option Bool :=
  Nat.rec (motive := fun _ => List Value → List Value → List Field → Option Bool) (fun _ _ _ => none)
    (fun _ go as bs l => List.rec (motive := fun _ => Option Bool) (some true) (fun f _ r =>
      bif decide (f.name = "_") then none else
      match fEq1 P go f as bs with | some true => r | some false => some false | none => none) l) d
noncomputable def fieldsEq (as bs : List Value) (l : List Field) : Option Bool := fEq P 3 as bs l
/-- Two structs of numbers of which not all is known. -/
noncomputable def structEq (t : TypeId) (a b : Value) : Option Bool :=
  match P.underlying t, a, b with
  | some (.struct fs), .agg ⟨as⟩, .agg ⟨bs⟩ => bif P.stoodInHeld t || P.eqGuardType P.depth t then none else fieldsEq P as bs fs.toList
  | _, _, _ => none
/-- Texts held against each other. -/
noncomputable def txtEq (t : TypeId) (a b : Value) : Option Bool :=
  match P.underlying t, textOf a, textOf b with
  | some (.string), some l, some m => bif tDiff l m then some false else none
  | _, _, _ => none
/-- The same field. -/
noncomputable def fldEq (t : TypeId) (a b : Value) : Option Bool :=
  match P.underlying t, a, b with
  | some (.int _), .complex .f64 i n, .complex .f64 j m => bif (Nat.beq i j && Nat.beq n m) && isFld n then some true else none
  | _, _, _ => none
noncomputable def absS (t : TypeId) (a b : Value) : Option Bool :=
  match absEq P t a b with
  | some r => some r
  | none => match structEq P t a b with
    | some r => some r
    | none => match fldEq P t a b with
      | some r => some r
      | none => txtEq P t a b
noncomputable def addTxt (op : BinOp) (t : TypeId) (a b : Value) : Option (List (Nat × Nat)) :=
  match op, P.underlying t, textOf a, textOf b with
  | .add, some (.string), some l, some m => bif Nat.ble (lenL l + lenL m) 1000000 then some (appL l m) else none
  | _, _, _, _ => none
/-- Two texts. -/
noncomputable def strBin (op : BinOp) (a b : Value) : Option Value :=
  match op, a, b with
  | .eql, .string x, .string y => some (.bool (sameB x.data.toList y.data.toList))
  | .neq, .string x, .string y => some (.bool (!sameB x.data.toList y.data.toList))
  | .add, .string x, .string y => bif Nat.ble (lenL x.data.toList + lenL y.data.toList) 1000000 then forceL (appL x.data.toList y.data.toList) fun l => some (.string ⟨⟨l⟩⟩) else none
  | _, _, _ => none
noncomputable def doBin (op : BinOp) (t : TypeId) (x y : Operand) (a b : Value) (s : St) : Rs Value :=
  match cmpI op a b with
  | some r => .ok (.bool r) s
  | none =>
  match strBin op a b with
  | some v => .ok v s
  | none =>
  bif flat a && flat b then
    match flatRun P (do eqGuard op t x y a b; binOp op t a b) with
    | some v => bif flat v then .ok v s else .no 45 0
    | none => .no 46 0
  else
    match absS P t a b, op with
    | some r, .eql => .ok (.bool r) s
    | some r, .neq => .ok (.bool (!r)) s
    | _, _ => match addTxt P op t a b with | some l => mkTxt l s | none => match fldBin op a b s with | some r => r | none => anyBinS op a b s
noncomputable def doFlat (a : Value) (x : Sem Value) (s : St) : Rs Value :=
  bif flat a then
    match flatRun P x with
    | some v => bif flat v then .ok v s else .no 49 0
    | none => .no 50 0
  else .no 51 0

/-! ### append, slices -/
noncomputable def rowOf (n size : Nat) (a : Addr) (s : St) : Option (List Value) :=
  match getRow s a with
  | some (cs, _, _) => let l := takeL (n * size) (dropL a.off cs); bif Nat.beq (lenL l) (n * size) then some l else none
  | none => none
noncomputable def aAppend (elem : TypeId) (size by_ : Nat) (base : Option Addr) (sLen sCap : Nat) (new : List Value) (n : Nat) (s : St) : Rs Value :=
  bif !(Nat.ble ((sLen + n) * by_ * 2) (2 ^ 40) && (Nat.beq (lenL new) (n * size) && cellsOk new)) then .no 51 1 else
  match base with
  | none =>
    bif Nat.beq sCap 0 && Nat.beq sLen 0 then
      bif Nat.beq n 0 then .ok (.slice none sLen sCap) s else sliceOf n INF (newRow new elem true s)
    else .no 52 0
  | some a =>
    match getRow s a with
    | some (cs, e, loose) =>
      let at_ := a.off + sLen * size
      let stop := at_ + n * size
      bif !(Nat.ble G a.block && (Nat.beq e elem && Nat.ble at_ (lenL cs))) then .no 53 0 else
      bif isInf sCap then
        bif !(loose && (Nat.beq a.off ((INF - sCap) * size) && Nat.ble sCap INF)) then .no 54 0 else
        bif Nat.ble stop (lenL cs) then
          .ok (.slice base (sLen + n) sCap) (setRow s a.block (appL (takeL at_ cs) (appL new (dropL stop cs))) e loose)
        else
          let s' : St := { heap := s.heap.set a.block .dead, next := s.next }
          sliceOf (sLen + n) INF (newRow (appL (takeL (sLen * size) (dropL a.off cs)) new) elem true s')
      else bif Nat.ble (sLen + n) sCap then
        bif Nat.ble stop (lenL cs) then
          .ok (.slice base (sLen + n) sCap) (setRow s a.block (appL (takeL at_ cs) (appL new (dropL stop cs))) e loose)
        else .no 55 0
      else sliceOf (sLen + n) INF (newRow (appL (takeL (sLen * size) (dropL a.off cs)) new) elem true s)
    | none => .no 56 a.block
noncomputable def bytesV (l : List UInt8) : List Value := l.map fun b => .int .u8 b.toNat
noncomputable def firstC (size n : Nat) (x : Value) (s : St) : Option (List Value) :=
  match x with
  | .slice (some a) _ _ => bif Nat.beq n 0 then some [] else rowOf n size a s
  | .slice none _ _ => bif Nat.beq n 0 then some [] else none
  | .string b => some (bytesV (takeL n b.data.toList))
  | .complex .f64 i m => bif Nat.blt m FLD then (bif Nat.ble n m then some (repL n [.chan none]) else none) else bif isTxt m then (match itemsV i (tItems m) with | some l => some (takeL n l) | none => none) else none
  | _ => none
noncomputable def lenV : Value → Option Nat
  | .slice _ n _ => some n
  | .string s => some s.size
  | .complex .f64 _ n => lenC n
  | _ => none
noncomputable def doAppend (argTypes : List TypeId) (args : List Value) (s : St) : Rs Value :=
  match argTypes, args with
  | [t, xt], [.slice base sLen sCap, x] =>
    match P.underlying t, P.underlying xt with
    | some (.slice elem), some xd =>
      ofO (szT P elem) 57 fun size => ofO (bytesT P elem) 57 fun by_ => bif !(Nat.blt 0 size && Nat.blt 0 by_) then .no 57 1 else ofO (zeroT P elem) 57 fun zz => bif !Nat.beq (lenL (cellsOf zz)) size then .no 57 2 else
      match xd with
      | .int _ =>
        match x with
        | .int _ n => let z := zz
          bif (decide (0 < n) && Nat.ble n.toNat 100000) && (Nat.ble (n.toNat * by_) (2 ^ 40) && (Nat.blt sCap (sLen + n.toNat) && !isInf sCap)) then aAppend G elem size by_ base sLen sCap (repL n.toNat (cellsOf z)) n.toNat s else .no 59 0
        | _ => .no 60 0
      | _ => ofO (lenV x) 61 fun n => ofO (firstC size n x s) 62 fun new => aAppend G elem size by_ base sLen sCap new n s
    | _, _ => .no 63 0
  | _, _ => .no 64 0
noncomputable def doCopy (argTypes : List TypeId) (args : List Value) (s : St) : Rs Value :=
  match argTypes, args with
  | t :: _, [.slice base dLen _, x] =>
    match P.underlying t with
    | some (.slice elem) =>
      ofO (szT P elem) 65 fun size => ofO (lenV x) 66 fun m =>
      let n := Nat.min m dLen
      ofO (firstC size n x s) 67 fun new =>
      match base with
      | none => .ok (.int .i64 n) s
      | some a =>
        match getRow s a with
        | some (cs, e, l) =>
          bif ((Nat.ble G a.block && cellsOk new) && Nat.beq (lenL new) (n * size)) && Nat.ble (a.off + n * size) (lenL cs) then
            .ok (.int .i64 n) (setRow s a.block (appL (takeL a.off cs) (appL new (dropL (a.off + n * size) cs))) e l)
          else .no 68 0
        | none => .no 69 a.block
    | _ => .no 70 0
  | _, _ => .no 71 0

noncomputable def doClear (argTypes : List TypeId) (args : List Value) (s : St) : Rs Value :=
  match argTypes, args with
  | t :: _, [.slice base n _] =>
    match P.underlying t, base with
    | some (.slice _), none => bif Nat.beq n 0 then .ok (.tuple #[]) s else .no 240 0
    | some (.slice e), some a =>
      bif Nat.beq n 0 then .ok (.tuple #[]) s else
      ofO (szT P e) 241 fun size => ofO (zeroT P e) 242 fun z =>
      match getRow s a with
      | some (cs, e', l) =>
        bif (Nat.ble G a.block && ((cellsOk (cellsOf z) && Nat.beq (lenL (cellsOf z)) size) && cellsOk (repL n (cellsOf z)))) && Nat.ble (a.off + n * size) (lenL cs) then
          .ok (.tuple #[]) (setRow s a.block (appL (takeL a.off cs) (appL (repL n (cellsOf z)) (dropL (a.off + n * size) cs))) e' l)
        else .no 243 0
      | none => .no 244 a.block
    | _, _ => .no 245 0
  | _, _ => .no 246 0

def natOf (d : Nat) : Option Value → Option Nat
  | none => some d
  | some (.int _ n) => bif decide (0 ≤ n) then some n.toNat else none
  | _ => none
def baseAt (c : Bool) (a : Addr) (n : Nat) : Addr := bif c then a else ⟨a.block, a.off + n, a.spot⟩
noncomputable def doSlice (t : TypeId) (x : Value) (lo hi mx : Option Value) (s : St) : Rs Value :=
  match P.underlying t, x with
  | some (.string), .string b =>
    match natOf 0 lo, natOf (lenL b.data.toList) hi, mx with
    | some l, some h, none => bif Nat.ble l h && Nat.ble h (lenL b.data.toList) then forceL (takeL (h - l) (dropL l b.data.toList)) fun m => .ok (.string ⟨⟨m⟩⟩) s else .no 72 0
    | _, _, _ => .no 73 0
  | some (.string), .float .f64 c =>
    match natOf 0 lo, natOf (lenL (tL c)) hi, mx with
    | some l, some h, none => bif Nat.beq (c % 4) 0 && (Nat.ble l h && Nat.ble h (lenL (tL c))) then mkTxt (takeL (h - l) (dropL l (tL c))) s else .no 72 1
    | _, _, _ => .no 73 1
  | some (.slice elem), .slice none len cap =>
    match szT P elem, natOf 0 lo, natOf len hi, mx with
    | some _, some l, some h, none => bif (Nat.beq l 0 && Nat.beq h 0) && (Nat.beq cap 0 && Nat.beq len 0) then .ok (.slice none 0 0) s else .no 76 0
    | some _, some l, some h, some (.int _ m) => bif (Nat.beq l 0 && Nat.beq h 0) && (Nat.beq cap 0 && Nat.beq len 0) && (hi.isSome && decide (m = 0)) then .ok (.slice none 0 0) s else .no 76 1
    | _, _, _, _ => .no 75 0
  | some (.slice elem), .slice (some a) len cap =>
    match szT P elem, natOf 0 lo, natOf len hi with
    | some size, some l, some h =>
      bif a.spot.isSome then (match mx with | none => bif Nat.beq l 0 && Nat.beq h 0 then .ok (.slice (some a) 0 cap) s else .no 81 1 | some _ => .no 81 2) else
      match mx with
      | none =>
        bif isInf cap then
          match getRow s a with
          | some (cs, e, lo) =>
            bif (Nat.ble l h && Nat.ble (a.off + h * size) (lenL cs)) && ((Nat.ble cap INF && Nat.beq a.off ((INF - cap) * size)) && ((Nat.blt 0 size && isInf (cap - l)) && (Nat.beq e elem && lo))) then
              bif Nat.beq l 0 || Nat.blt l h then .ok (.slice (some (baseAt false a (l * size))) (h - l) (cap - l)) s
              else .ok (.slice (some ⟨0, 0, some 0⟩) 0 0) s
            else .no 77 0
          | none => .no 77 1
        else bif Nat.ble l h && Nat.ble h cap then .ok (.slice (some (baseAt (Nat.beq cap l) a (l * size))) (h - l) (cap - l)) s
        else .no 78 0
      | some (.int _ m) =>
        bif (hi.isSome && decide (0 ≤ m)) && ((Nat.ble l h && Nat.ble h m.toNat) && !isInf m.toNat) then
          bif isInf cap then
            match getRow s a with
            | some (cs, e, lo) =>
              bif Nat.ble (a.off + m.toNat * size) (lenL cs) && ((Nat.ble cap INF && Nat.beq a.off ((INF - cap) * size)) && (Nat.blt 0 size && (Nat.beq e elem && lo))) then
                .ok (.slice (some (baseAt (Nat.beq m.toNat l) a (l * size))) (h - l) (m.toNat - l)) s
              else .no 79 0
            | none => .no 79 1
          else bif Nat.ble m.toNat cap then .ok (.slice (some (baseAt (Nat.beq m.toNat l) a (l * size))) (h - l) (m.toNat - l)) s else .no 79 2
        else .no 80 0
      | _ => .no 80 1
    | _, _, _ => .no 81 0
  | some (.array n elem), .pointer (some a) =>
    match szT P elem, natOf 0 lo, natOf n hi, mx with
    | some size, some l, some h, none =>
      bif (Nat.ble l h && Nat.ble h n) && !isInf n then .ok (.slice (some (baseAt (Nat.beq n l) a (l * size))) (h - l) (n - l)) s else .no 88 0
    | _, _, _, _ => .no 89 0
  | _, _ => .no 90 0

noncomputable def toBytes (l : List Value) : Option (List UInt8) :=
  List.rec (motive := fun _ => Option (List UInt8)) (some []) (fun v _ r => match v, r with | .int .u8 n, some r => some (UInt8.ofNat n.toNat :: r) | _, _ => none) l
noncomputable def doToString (src : TypeId) (a : Addr) (n : Nat) (s : St) : Rs Value :=
  match P.underlying src with
  | some (.slice e) =>
    match P.underlying e with
    | some (.int .u8) => ofO (rowOf n 1 a s) 91 fun l => match toBytes l with | some bs => .ok (.string ⟨⟨bs⟩⟩) s | none => match txtOfFlds l with | some v => .ok v s | none => ofO (txtOfCells l) 92 fun ps => mkTxt ps s
    | _ => .no 93 0
  | _ => .no 94 0
noncomputable def doNoBytes (src : TypeId) (s : St) : Rs Value :=
  match P.underlying src with
  | some (.slice e) =>
    match P.underlying e with
    | some (.int .u8) => .ok (.string ⟨⟨[]⟩⟩) s
    | _ => .no 93 1
  | _ => .no 94 1
noncomputable def doToBytes (e : TypeId) (b : ByteArray) (s : St) : Rs Value :=
  match P.underlying e, szT P e with
  | some (.int .u8), some 1 => sliceOf b.size INF (newRow (bytesV b.data.toList) e true s)
  | _, _ => .no 96 0
noncomputable def doConvert (src dst : TypeId) (x : Value) (s : St) : Rs Value :=
  match P.underlying dst with
  | some (.slice e) => match x with | .string b => (match P.underlying src with | some _ => doToBytes P e b s | none => .no 97 2) | _ => .no 97 0
  | some (.string) => match x with | .slice (some a) n _ => bif a.spot.isSome then (bif Nat.beq n 0 then doNoBytes P src s else .no 97 1) else doToString P src a n s | _ => doFlat P x (convert src dst x) s
  | some (.int k) =>
    bif flat x then doFlat P x (convert src dst x) s else
    match P.underlying src with
    | some _ => bif isSym x && decide (k = .i64) then .ok x s else convF k x s
    | none => .no 97 3
  | _ => doFlat P x (convert src dst x) s

noncomputable def mapOf (r : Nat) (s : St) : Option (Array MapEntry × Nat) :=
  match s.heap.get r with
  | some (.obj (.map es c)) => some (es, c)
  | _ => none
noncomputable def objOf (r : Nat) (s : St) : Option Obj :=
  match s.heap.get r with
  | some (.obj o) => some o
  | _ => none
noncomputable def setObjA (s : St) (r : Nat) (o : Obj) : St := { heap := s.heap.set r (.obj o), next := s.next }
noncomputable def newObjA (o : Obj) (s : St) : St := { heap := s.heap.set s.next (.obj o), next := Nat.succ s.next }

def lenAny (x : Value) (s : St) : Rs Value :=
  match x with
  | .chan (some q) => bif Nat.ble q 1 then .no 98 1 else bif Nat.beq ((q - 1) % 2) 1 then mkR .i64 0 ((q - 1) / 2) s else mkR .i64 ((q - 1) / 2) 9223372036854775807 s
  | _ => .no 98 2
noncomputable def doLen (argTypes : List TypeId) (args : List Value) (s : St) : Rs Value :=
  match argTypes, args with
  | t :: _, [x] =>
    match P.underlying t, x with
    | some (.string), .string b => .ok (.int .i64 (.ofNat (lenL b.data.toList))) s
    | some (.string), .complex .f64 _ n => ofO (lenC n) 98 fun m => .ok (.int .i64 (.ofNat m)) s
    | some (.string), .float .f64 c => bif Nat.beq (c % 4) 0 then .ok (.int .i64 (lenL (tL c))) s else .no 98 3
    | some (.slice _), .slice _ n _ => .ok (.int .i64 n) s
    | some (.slice _), x => lenAny x s
    | some (.array n _), _ => .ok (.int .i64 n) s
    | some (.map _ _), .map none => .ok (.int .i64 0) s
    | some (.map _ _), .map (some r) => ofO (mapOf r s) 97 fun m => .ok (.int .i64 m.1.size) s
    | _, _ => .no 98 0
  | _, _ => .no 99 0

/-! ### Maps -/
def plainE (e : MapEntry) : MapEntry := { key := e.key, val := .bool true, born := e.born }
/-- Where a key lies: none: the search is not served. -/
noncomputable def findE (kt : TypeId) (empty : Bool) (k : Value) (es : List MapEntry) : Option (Option Nat) :=
  bif flat k && es.all (fun e => flat e.key) then
    match flatRun P (do Instr.checkKey empty 10000 kt k; Instr.findKey kt k (es.map plainE)) with
    | some (some r) => some (some r.1)
    | some none => some none
    | none => none
  else none
/-- The same for keys that are texts. -/
noncomputable def findS (k : Value) (es : List MapEntry) : Nat → Option (Option Nat) :=
  List.rec (motive := fun _ => Nat → Option (Option Nat)) (fun _ => some none) (fun e _ go i => match keyEq k e.key with | some true => some (some i) | some false => go (Nat.succ i) | none => none) es
noncomputable def findX (kt : TypeId) (empty : Bool) (k : Value) (es : List MapEntry) : Option (Option Nat) :=
  match findE P kt empty k es with
  | some r => some r
  | none => match P.underlying kt with | some (.string) => findS k es 0 | _ => none
noncomputable def doMakeMap (t : TypeId) (r : Option Value) (s : St) : Rs Value :=
  match P.underlying t with
  | some (.map _ _) =>
    match r with
    | none | some (.int _ _) => .ok (.map (some s.next)) (newObjA (.map #[] 0) s)
    | _ => .no 170 0
  | _ => .no 171 0
noncomputable def doLookup (t : TypeId) (x k : Value) (ok : Bool) (s : St) : Rs Value :=
  match P.underlying t, x with
  | some (.map kt vt), .map m =>
    ofO (match m with | none => some (#[], 0) | some r => mapOf r s) 172 fun e =>
    ofO (findX P kt e.1.isEmpty k e.1.toList) 173 fun i =>
    match i with
    | none => ofO (zeroT P vt) 174 fun z => .ok (bif ok then .tuple #[z, .bool false] else z) s
    | some i => ofO (nth e.1.toList i) 175 fun e => .ok (bif ok then .tuple #[e.val, .bool true] else e.val) s
  | _, _ => .no 176 0
noncomputable def doMapUpdate (t : TypeId) (x k v : Value) (s : St) : Rs Value :=
  match P.underlying t, x with
  | some (.map kt _), .map (some r) =>
    bif !Nat.ble G r then .no 177 0 else
    ofO (mapOf r s) 178 fun e =>
    ofO (findX P kt false k e.1.toList) 179 fun i =>
    match i with
    | none => .ok undef (setObjA s r (.map ⟨appL e.1.toList [{ key := k, val := v, born := e.2 }]⟩ (Nat.succ e.2)))
    | some i => ofO (nth e.1.toList i) 180 fun x =>
      bif (flat k && flat x.key) && Instr.sameBits 10000 x.key k then .ok undef (setObjA s r (.map ⟨setL { key := k, val := v, born := x.born } e.1.toList i⟩ e.2)) else .no 181 0
  | _, _ => .no 182 0
noncomputable def doDelete (ts : List TypeId) (args : List Value) (s : St) : Rs Value :=
  match ts, args with
  | t :: _, [.map (some r), k] =>
    match P.underlying t with
    | some (.map kt _) =>
      bif !Nat.ble G r then .no 183 0 else
      ofO (mapOf r s) 184 fun e =>
      ofO (findX P kt e.1.isEmpty k e.1.toList) 185 fun i =>
      match i with
      | none => .ok (.tuple #[]) s
      | some i => .ok (.tuple #[]) (setObjA s r (.map ⟨appL (takeL i e.1.toList) (dropL (Nat.succ i) e.1.toList)⟩ e.2))
    | _ => .no 186 0
  | _, _ => .no 187 0
noncomputable def iterV (o : Obj) (s : St) : Rs Value := .ok (.pointer (some ⟨s.next, 0, none⟩)) (newObjA o s)
noncomputable def doRangeOp (t : TypeId) (x : Value) (s : St) : Rs Value :=
  match P.underlying t, x with
  | some (.string), .string b => iterV (.stringIter b 0) s
  | some (.map _ _), .map none => iterV (.mapIter none 0 #[] 0) s
  | some (.map _ _), .map (some r) => ofO (mapOf r s) 188 fun e => iterV (.mapIter (some r) e.2 #[] e.2) s
  | _, _ => .no 189 0
noncomputable def doNextOp (it : Value) (isString : Bool) (s : St) : Rs Value :=
  match it with
  | .pointer (some ⟨r, 0, none⟩) =>
    bif !Nat.ble G r then .no 190 1 else
    ofO (objOf r s) 190 fun o =>
    match o, isString with
    | .stringIter b pos, true =>
      bif Nat.blt pos b.size then
        let c := Utf8.decode b pos
        .ok (.tuple #[.bool true, .int .i64 pos, .int .i32 c.1]) (setObjA s r (.stringIter b (pos + c.2)))
      else .ok (.tuple #[.bool false]) s
    | .mapIter none _ _ _, false => .ok (.tuple #[.bool false]) s
    | .mapIter (some m) since seen last, false =>
      ofO (mapOf m s) 191 fun e =>
      bif !seen.isEmpty && !e.1.toList.isEmpty && e.1.toList.all (fun x => decide (x.born ≥ last)) then .no 192 0 else
      let left := e.1.toList.filter fun x => !seen.contains x.born
      let old := left.filter fun x => decide (x.born < since)
      let new := left.filter fun x => decide (x.born ≥ since)
      match old, new with
      | [], [] => .ok (.tuple #[.bool false]) s
      | [x], [] => .ok (.tuple #[.bool true, x.key, x.val]) (setObjA s r (.mapIter (some m) since (seen.push x.born) e.2))
      | _, _ => .no 193 0
    | _, _ => .no 194 0
  | _ => .no 195 0

noncomputable def doEntry (it : Value) (s : St) : Rs Value :=
  match it with
  | .pointer (some ⟨r, 0, none⟩) =>
    ofO (objOf r s) 196 fun o =>
    match o with
    | .mapIter (some m) _ seen stepped =>
      ofO seen.back? 197 fun st => ofO (mapOf m s) 198 fun e =>
      bif Nat.beq e.2 stepped then ofO (e.1.toList.find? (·.born == st)) 199 fun x => .ok (.tuple #[x.key, x.val]) s else .no 200 0
    | _ => .no 201 0
  | _ => .no 202 0

noncomputable def doAssert (x : Value) (asserted : TypeId) (ok : Bool) (s : St) : Rs Value :=
  match P.underlying asserted, x with
  | some (.interface want), .iface t _ =>
    ofO (P.info? t) 230 fun i =>
    match Instr.missingMethod want i.methods with
    | none => .ok (bif ok then .tuple #[x, .bool true] else x) s
    | some _ => bif ok then ofO (zeroT P asserted) 231 fun z => .ok (.tuple #[z, .bool false]) s else .no 232 0
  | some _, .iface t v =>
    bif Nat.beq t asserted then .ok (bif ok then .tuple #[v, .bool true] else v) s
    else bif ok then ofO (zeroT P asserted) 233 fun z => .ok (.tuple #[z, .bool false]) s else .no 234 0
  | some _, .nilIface => bif ok then ofO (zeroT P asserted) 236 fun z => .ok (.tuple #[z, .bool false]) s else .no 237 0
  | _, _ => .no 235 0

noncomputable def doCap (argTypes : List TypeId) (args : List Value) (s : St) : Rs Value :=
  match argTypes, args with
  | t :: _, [.slice base _ c] =>
    match P.underlying t, base with
    | some (.slice _), none => .ok (.int .i64 c) s
    | some (.slice _), some a => bif a.spot.isSome || isInf c then .no 121 0 else .ok (.int .i64 c) s
    | _, _ => .no 121 1
  | _, _ => .no 122 0

structure Ih where
  code : FuncId → Option Nat → Code → Ac → St → Rs (Ex × Ac)
  call : FuncId → List Value → St → Rs Value

noncomputable def treeOf (l : List Value) : Nat → Tr Value → Tr Value :=
  List.rec (motive := fun _ => Nat → Tr Value → Tr Value) (fun _ t => t) (fun v _ go i t => go (Nat.succ i) (t.set i v)) l
noncomputable def arrOf (n : Nat) (t : Tr Value) : List Value := (List.range n).map fun i => match t.get i with | some v => v | none => undef

noncomputable def loopOf (l : Nat) (s : St) : Option Loop :=
  match s.heap.get l with
  | some (.obj (.loop r)) => some r
  | _ => none
noncomputable def setLoop (s : St) (l : Nat) (r : Loop) : St := setObjA s l (.loop r)

noncomputable def doRound (ih : Ih) (l : Nat) (args : List Value) (s : St) : Rs Value :=
  bif !Nat.ble G l then .no 118 0 else
  ofO (loopOf l s) 110 fun r =>
  bif !Nat.beq (lenL args) (lenL r.params.toList) then .no 111 0 else
  let tm := treeOf r.tmps.toList 0 .nil
  let n := r.tmps.size
  let tm := (r.params.toList.zip args).foldl (fun t (p : Tmp × Value) => bif Nat.blt p.1 n then t.set p.1 p.2 else t) tm
  liftR (ih.code r.fn (some l) r.assign { n, t := tm, d := [] } s) fun e s =>
  match e with
  | (.normal, ac) =>
    ofO (loopOf l s) 112 fun r2 =>
    match r2.state with
    | .ready =>
      liftR (ih.code r.fn (some l) r.body ac (setLoop s l { r2 with state := .busy })) fun e s =>
      match e.2.d with
      | [] =>
        ofO (loopOf l s) 113 fun r3 =>
        match e.1 with
        | .normal => .ok (.bool true) (setLoop s l { r3 with state := .ready, pending := none })
        | .ret => .ok (.bool false) (setLoop s l { r3 with state := .done, pending := some .ret })
        | .exit id => .ok (.bool false) (setLoop s l { r3 with state := .done, pending := some (.exit id) })
        | .goto _ => .no 114 0
      | _ => .no 115 0
    | _ => .no 116 0
  | _ => .no 117 0

def entersF (f : FuncId) : Bool := match P.funcs[f]? with | some fn => fn.body.isSome && !(fn.name == "runtime.NumGoroutine") | none => false
noncomputable def doExtern (f : FuncId) (args : List Value) (s : St) : Rs Value :=
  bif flats args then
    match flatRun P (callFunc f ⟨args⟩) with
    | some (.value v) => bif flat v then .ok v s else .no 163 f
    | _ => .no 164 f
  else .no 161 f
noncomputable def doCallV (ih : Ih) (fv : Value) (args : List Value) (s : St) : Rs Value :=
  match fv with
  | .func (.func f) ⟨first⟩ ⟨captured⟩ =>
    bif entersF P f then ih.call f (appL first (appL args captured)) s else doExtern P f (appL first (appL args captured)) s
  | .func (.yield l) ⟨first⟩ _ => doRound G ih l (appL first args) s
  | _ => .no 120 0
/-- The smaller, or the greater, of two numbers of which not all is known. -/
def mmAny (gr : Bool) (l : List Value) (s : St) : Rs Value :=
  match l with
  | [a, b] =>
    match bnds a, bnds b with
    | some (k, la, ha), some (k', lb, hb) =>
      bif !decide (k = k') then .no 123 1 else
      bif Nat.ble ha lb then .ok (bif gr then b else a) s else
      bif Nat.ble hb la then .ok (bif gr then a else b) s else .no 123 2
    | _, _ => .no 123 3
  | _ => .no 123 4
noncomputable def doCall (ih : Ih) (e : Operand → Value) (o : Oper) (c : Call) (s : St) : Rs Value :=
  match c.callee with
  | .value f => doCallV P G ih (e f) (c.args.toList.map e) s
  | .builtin .append => doAppend P G c.argTypes.toList (c.args.toList.map e) s
  | .builtin .copy => doCopy P G c.argTypes.toList (c.args.toList.map e) s
  | .builtin .len => doLen P c.argTypes.toList (c.args.toList.map e) s
  | .builtin .cap => doCap P c.argTypes.toList (c.args.toList.map e) s
  | .builtin .min => bif flats (c.args.toList.map e) then doFlat P (.bool true) (do match ← (execOp e o) with | .value v => pure v | _ => stuck "") s else mmAny false (c.args.toList.map e) s
  | .builtin .max => bif flats (c.args.toList.map e) then doFlat P (.bool true) (do match ← (execOp e o) with | .value v => pure v | _ => stuck "") s else mmAny true (c.args.toList.map e) s
  | .builtin .clear => doClear P G c.argTypes.toList (c.args.toList.map e) s
  | .builtin .delete => doDelete P G c.argTypes.toList (c.args.toList.map e) s
  | .builtin _ => .no 124 0
  | .invoke _ _ => .no 125 0

noncomputable def oper (ih : Ih) (a : Ac) (o : Oper) (s : St) : Rs Value :=
  match o.op with
  | .move x | .assign x => .ok (ev a x) s
  | .pick c x y => match ev a c with | .bool true => .ok (ev a x) s | .bool false => .ok (ev a y) s | _ => .no 130 0
  | .binOp op t x y _ => doBin P op t x y (ev a x) (ev a y) s
  | .unOp op _ x => doFlat P (ev a x) (Op.unary op (ev a x)) s
  | .convert src dst x => doConvert P src dst (ev a x) s
  | .load t p => doLoad P t (ev a p) s
  | .store t p v => doStore P G t (ev a p) (ev a v) s
  | .alloc t => ofO (zeroT P t) 131 fun z => newRow (cellsOf z) t false s
  | .box t v => newRow (cellsOf (ev a v)) t false s
  | .build t ps => doBuild P t (ps.toList.map fun p => (p.1, ev a p.2)) s
  | .buildSlice t n ps => doBuildSlice P t n (ps.toList.map fun p => (p.1, ev a p.2)) s
  | .nilCheck x => match ev a x with | .pointer (some p) => .ok (.pointer (some p)) s | .func (.func f) b c => .ok (.func (.func f) b c) s | .func (.yield f) b c => .ok (.func (.yield f) b c) s | _ => .no 132 0
  | .fieldAddr t x f => doFieldAddr P t (ev a x) f s
  | .indexAddr t x i => doIndexAddr P t (ev a x) (ev a i) s
  | .field t x f => doField P t (ev a x) f s
  | .index t x i => doIndex P t (ev a x) (ev a i) s
  | .slice t x lo hi mx => doSlice P t (ev a x) (lo.map (ev a)) (hi.map (ev a)) (mx.map (ev a)) s
  | .extract x i => match ev a x with | .tuple ⟨vs⟩ => ofO (nth vs i) 134 fun v => .ok v s | _ => .no 135 0
  | .makeInterface t x => match P.underlying t with | some (.interface _) => .no 136 0 | some _ => .ok (.iface t (ev a x)) s | none => .no 137 0
  | .makeFunc fn first cap => match fn with | .yield _ => .no 138 0 | fn => .ok (.func fn ⟨first.toList.map (ev a)⟩ ⟨cap.toList.map (ev a)⟩) s
  | .makeSlice t l c => doMakeSlice P t (ev a l) (ev a c) s
  | .call c => doCall P G ih (ev a) o c s
  | .makeMap t r => doMakeMap P t (r.map (ev a)) s
  | .lookup t x k ok => doLookup P t (ev a x) (ev a k) ok s
  | .mapUpdate t m k v | .insert t m k v => doMapUpdate P G t (ev a m) (ev a k) (ev a v) s
  | .range t x => doRangeOp P t (ev a x) s
  | .next it st => doNextOp G (ev a it) st s
  | .mapEntry .. => .no 205 0 | .entryStore .. => .no 206 0
  | .entry it => doEntry (ev a it) s
 
  | .typeAssert x _ at_ ok => doAssert P (ev a x) at_ ok s
  | .go _ => .no 211 0 | .defer _ => .no 212 0 | .panic _ => .no 213 0 | .send .. => .no 214 0 | .recv .. => .no 215 0 | .select .. => .no 216 0
  | .makeChan .. => .no 217 0 | .ready _ => .no 218 0 | .waits _ => .no 219 0 | .sliceToArrayPointer .. => .no 220 0

noncomputable def wants (ops : List Oper) (a : Ac) (o : Oper) : Bool :=
  match o.guard with
  | none => true
  | some (j, want) =>
    match nth ops j with
    | none => false
    | some g => match g.dst with | none => false | some d => match a.t.get d with | some (.bool b) => b == want | _ => false

noncomputable def opsRun (ih : Ih) (ops : List Oper) (l : List Oper) : Ac → St → Rs (Ex × Ac) :=
  List.rec (motive := fun _ => Ac → St → Rs (Ex × Ac)) (fun a s => .ok (.normal, a) s)
    (fun o _ go a s => bif wants ops a o then liftR (oper P G ih a o s) fun v s => go (put a o.dst v) s else go (put a o.dst undef) s) l

/-! ### Regions that draw -/
/-- 0 needs no memory; 1 reads; 2 makes; 3 acts. -/
def opKind (o : Oper) : Nat :=
  match o.op with
  | .move _ | .assign _ | .pick .. | .binOp .. | .unOp .. | .fieldAddr .. | .indexAddr .. | .field .. | .index .. | .extract .. | .makeInterface .. | .makeFunc .. | .nilCheck _ | .build .. | .typeAssert .. => 0
  | .load .. | .slice .. => 1
  | .convert _ dst _ => match P.underlying dst with | some (.slice _) => 2 | _ => 1
  | .alloc _ | .box .. | .buildSlice .. | .makeSlice .. => 2
  | .call { callee := .builtin .len, .. } | .call { callee := .builtin .min, .. } | .call { callee := .builtin .max, .. } | .call { callee := .builtin .cap, .. } => 1
  | _ => 3
def preOf (ops : List Oper) : List Nat :=
  (ops.foldl (fun (acc : List Nat) o => (o.after.foldl (fun s e => bif Region.binds .any e then s ||| 2 ^ e.on ||| (acc.reverse.getD e.on 0) else s) 0) :: acc) []).reverse
def inPre (pre : List Nat) (j i : Nat) : Bool := (pre.getD i 0).testBit j
def looks (ops : List Oper) (o : Oper) : List Tmp :=
  (o.op.operands.toList.filterMap fun | .tmp t => some t | _ => none) ++
  (match o.guard with | some (g, _) => ((ops[g]?).bind (·.dst)).toList | none => [])
def apart (ops : List Oper) (x y : Oper) : Bool :=
  match x.dst with | some d => !(looks ops y).contains d && y.dst != some d | none => true
structure Stage where
  qs : List Nat
  l : Option Nat
def ordOf (g : List Stage) : List Nat := g.flatMap fun g => g.qs ++ g.l.toList
def ordOk (pre : List Nat) : List Nat → Bool
  | [] => true
  | y :: r => r.all (fun x => x != y && !inPre pre x y) && ordOk pre r
def stOk (P : Program) (ops : List Oper) (pre : List Nat) : List Stage → Bool
  | [] => true
  | g :: r => g.qs.all (fun i => match ops[i]? with | some o => opKind P o != 3 | none => false) &&
    (match g.l with | none => true | some j => (ordOf r).all fun i => inPre pre j i) && stOk P ops pre r
def plOk (P : Program) (ops : List Oper) (pre : List Nat) (g : List Stage) : Bool :=
  let n := ops.length
  (List.range n).all (fun i => (ordOf g).contains i) && (ordOf g).all (fun i => decide (i < n)) && ordOk pre (ordOf g) && stOk P ops pre g &&
  (ops.zipIdx.all fun (o, i) => (o.after.toList.all fun e => !Region.binds .any e || decide (e.on < i)) &&
    (List.range n).all fun j => !inPre pre j i || o.after.toList.any fun e => Region.binds .any e && (e.on == j || inPre pre j e.on)) &&
  (ops.zipIdx.all fun (x, i) => ops.zipIdx.all fun (y, j) => i == j || inPre pre i j || inPre pre j i || apart ops x y)
def planOf (ops : List Oper) : Option (List Stage) :=
  let pre := preOf ops
  let n := ops.length
  let kind (i : Nat) : Nat := match ops[i]? with | some o => opKind P o | none => 3
  let louds := (List.range n).filter fun i => kind i == 3
  let lo (i : Nat) : Nat := (louds.filter fun l => inPre pre l i).length
  let g := (List.range (louds.length + 1)).map fun t => { qs := (List.range n).filter fun i => kind i != 3 && lo i == t, l := louds[t]? : Stage }
  bif plOk P ops pre g then some g else none
structure Pend where
  i : Nat
  o : Oper
  a : Ac
  v : Value
noncomputable def recheck (ih : Ih) (s : St) (l : List Pend) : Bool :=
  List.rec (motive := fun _ => Bool) true (fun p _ r =>
    match oper P G ih p.a p.o s with
    | .ok v _ => same v p.v && r
    | .no .. => false) l
noncomputable def quietRun (ih : Ih) (ops : List Oper) (l : List Nat) : List Pend → Ac → St → Rs (List Pend × Ac) :=
  List.rec (motive := fun _ => List Pend → Ac → St → Rs (List Pend × Ac)) (fun p a s => .ok (p, a) s)
    (fun i _ go p a s0 =>
      match nth ops i with
      | none => .no 139 0
      | some o => bif wants ops a o then liftR (oper P G ih a o s0) fun v s => go (bif Nat.beq (opKind P o) 1 then ⟨i, o, a, v⟩ :: p else p) (put a o.dst v) (bif Nat.ble (opKind P o) 1 then s0 else s) else go p (put a o.dst undef) s0) l
noncomputable def stagesRun (ih : Ih) (ops : List Oper) (pre : List Nat) (l : List Stage) : List Pend → Ac → St → Rs (Ex × Ac) :=
  List.rec (motive := fun _ => List Pend → Ac → St → Rs (Ex × Ac)) (fun _ _ _ => .no 138 0)
    (fun g r go p a s =>
      liftR (quietRun P G ih ops g.qs p a s) fun q s =>
      bif recheck P G ih s q.1 then
        match g.l with
        | none => (match r with | [] => .ok (.normal, q.2) s | _ => .no 138 1)
        | some j =>
          match nth ops j with
          | none => .no 138 2
          | some o =>
            let p := q.1.filter fun x => !inPre pre x.i j
            bif wants ops q.2 o then liftR (oper P G ih q.2 o s) fun v s => go p (put q.2 o.dst v) s else go p (put q.2 o.dst undef) s
      else .no 140 0) l

def opFlat : Operand → Bool
  | .const v => flat v
  | .global g => Nat.blt (Nat.succ g) G
  | _ => true
def regOk (ops : List Oper) : Bool := ops.all fun o => o.op.operands.toList.all (opFlat G)

noncomputable def marksRun (l : List Nat) : St → Rs Unit :=
  List.rec (motive := fun _ => St → Rs Unit) (fun s => .ok () s) (fun b _ go s =>
    match s.heap.get b with
    | some (.obj (.deferred (some []))) => go (setObjA s b (.deferred none))
    | _ => .no 141 0) l
noncomputable def valsRun (a : Ac) (l : List ResultVar) : St → Rs (List Value) :=
  List.rec (motive := fun _ => St → Rs (List Value)) (fun s => .ok [] s) (fun r _ go s =>
    match r with
    | .tmp t => liftR (go s) fun vs s => .ok (ev a (.tmp t) :: vs) s
    | .cell p t => liftR (doLoad P t (ev a (.tmp p)) s) fun v s => liftR (go s) fun vs s => .ok (v :: vs) s) l
noncomputable def doLeave (fn : Func) (a : Ac) (s : St) : Rs Value :=
  bif a.d.all (fun i => Nat.ble G i) then (liftR (marksRun a.d s) fun _ s => liftR (valsRun P a fn.results.toList s) fun vs s => .ok (match vs with | [v] => v | vs => .tuple ⟨vs⟩) s) else .no 146 0

noncomputable def doRange (ih : Ih) (fn : FuncId) (rnd : Option Nat) (f : Operand) (params : Array Tmp) (assign body : Code) (a : Ac) (s : St) : Rs (Ex × Ac) :=
  match rnd with
  | some _ => .no 142 0
  | none =>
    let b := s.next
    let s := newObjA (.deferred (some [])) s
    let l := s.next
    let s := newObjA (.loop { state := .ready, pending := none, fn, tmps := ⟨arrOf a.n a.t⟩, params, assign, body, defers := b }) s
    let a : Ac := { a with d := b :: a.d }
    liftR (doCallV P G ih (ev a f) [.func (.yield l) #[] #[]] s) fun _ s =>
    ofO (loopOf l s) 143 fun r =>
    match r.state with
    | .busy => .no 144 0
    | _ =>
      let s := setLoop s l { r with state := .exhausted }
      match r.pending with
      | none => .ok (.normal, a) s
      | some .ret => .ok (.ret, a) s
      | some (.exit id) => .ok (.exit id, a) s
      | _ => .no 145 0

noncomputable def stepCode (ih : Ih) (fn : FuncId) (rnd : Option Nat) (c : Code) (a : Ac) (s : St) : Rs (Ex × Ac) :=
  match c with
  | .skip => .ok (.normal, a) s
  | .seq x y => liftR (ih.code fn rnd x a s) fun r s =>
    match r with
    | (.normal, a) => ih.code fn rnd y a s
    | r => .ok r s
  | .cond c x y =>
    bif opFlat G c then
      match ev a c with
      | .bool true => ih.code fn rnd x a s
      | .bool false => ih.code fn rnd y a s
      | _ => .no 150 0
    else .no 151 0
  | .block id c => liftR (ih.code fn rnd c a s) fun r s =>
    match r with
    | (.exit id', a) => bif Nat.beq id' id then .ok (.normal, a) s else .ok (.exit id', a) s
    | r => .ok r s
  | .loop c => liftR (ih.code fn rnd c a s) fun r s =>
    match r with
    | (.normal, a) => ih.code fn rnd (.loop c) a s
    | r => .ok r s
  | .exit id => .ok (.exit id, a) s
  | .ret => .ok (.ret, a) s
  | .label _ => .ok (.normal, a) s
  | .goto _ => .no 152 0
  | .scope _ => .no 153 0
  | .refuse _ => .no 154 0
  | .rangeFunc f params assign body => bif opFlat G f then doRange P G ih fn rnd f params assign body a s else .no 155 0
  | .region _ ops draw =>
    bif regOk G ops.toList then
      bif draw then ofO (planOf P ops.toList) 156 fun pl => stagesRun P G ih ops.toList (preOf ops.toList) pl [] a s
      else opsRun P G ih ops.toList ops.toList a s
    else .no 157 0

noncomputable def stepCall (ih : Ih) (f : FuncId) (args : List Value) (s : St) : Rs Value :=
  ofO (P.funcs[f]?) 160 fun fn =>
  match fn.body with
  | none => .no 161 f
  | some c => match ih.code f none c { n := Nat.max fn.ntmps (lenL args), t := treeOf args 0 .nil, d := [] } s with
    | .ok r s =>
      (match r with
      | (.normal, a) | (.ret, a) => doLeave P G fn a s
      | _ => .no 162 f)
    | .no a b => .no a (b * 10000 + f)

noncomputable def go (n : Nat) : Ih :=
  Nat.rec (motive := fun _ => Ih) { code := fun _ _ _ _ _ => .no 170 0, call := fun _ _ _ => .no 171 0 }
    (fun _ ih => { code := fun fn rnd c a s => stepCode P G ih fn rnd c a s, call := fun f args s => stepCall P G ih f args s }) n
end
end Go.Proofs.YtdhkebolenbpiaaGreatDoor.X
