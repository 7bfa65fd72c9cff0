/-
  Closed calls run by a function: what values, places and memory are, and what each operation comes to. Each operation, operand and piece of code is turned once into a function that is held in a structure; continuations take what was found.
-/
import Derived.Test.YtalnkjpgnkfedaaGreatDoorEngU
import Derived.Test.YtalnkjpgnkfedaaGreatDoorEngG
import Derived.Test.YtalnkjpgnkfedaaGreatDoorEngQ
namespace Go.Proofs.YtalnkjpgnkfedaaGreatDoor
open Go.RowKit
namespace Eng
namespace Rn
/-- A value of one cell; places are told by numbers of their own. n: a whole number that is not negative; m k a: -(a + 1); l: a slice (block, cells of an element, first element, length), as long as its block; lx: with a capacity; le: an empty one, behind a others; u: none. -/
inductive SV where
  | n (k : IntKind) (a : Nat)
  | m (k : IntKind) (a : Nat)
  | b (x : Bool)
  | s (l : List Nat)
  | p0
  | p (id o : Nat)
  | l0
  | l (id z j n : Nat)
  | lx (id z j n c : Nat)
  | le (id z j a : Nat)
  | u
  | fl (n : Nat)
  | cx (a b : Nat)
  | mp (id : Nat)
  | i0
inductive TV where
  | v (x : SV)
  | g (l : List SV)
inductive AV where
  | v (x : SV)
  | g (l : List SV)
  | t (l : List TV)
  | f (fn : Nat) (l : List SV)
/-- A table of numbers below a power of two. -/
inductive Tr (α : Type) where
  | nil
  | leaf (v : α)
  | node (l r : Tr α)
/-- A block: its elements' type, the depth of its table, below which cell all that are known lie, its cells. -/
structure Ob where
  e : TypeId
  d : Nat
  n : Nat
  m : Tr SV
/-- Blocks, and maps from numbers to numbers: keys and values in the order in which they came. -/
structure Mem where
  n : Nat
  h : Tr Ob
  mp : List (Nat × List (Nat × Nat))
abbrev AEnv := List (Nat × AV)
/-- Slots: those that are kept, those till the next region; in a region with reads that are held: what was read, and the memories so far. -/
structure En where
  vs : AEnv
  ts : AEnv
  hs : List (Nat × Nat × List SV)
  ms : List Mem
inductive Ex where
  | nrm
  | ext (n : Nat)
  | gto (n : Nat)
  | ret
  | val (v : AV)
inductive Rs where
  | no
  | mk (x : Ex) (e : En) (m : Mem)
/-- A number is reckoned before it goes on. -/
noncomputable def fN (n : Nat) (k : Nat → Rs) : Rs := Nat.rec (motive := fun _ => Rs) (k 0) (fun m _ => k m) (Nat.add n 1)
noncomputable def okK (b : Bool) (r : Rs) : Rs := Bool.rec (motive := fun _ => Rs) .no r b
noncomputable def ifK (b : Bool) (x y : Rs) : Rs := Bool.rec (motive := fun _ => Rs) y x b
section
variable {α : Type}
/-- A list's spine is reckoned before it goes on. -/
noncomputable def fP (l : List α) (k : List α → Rs) : Rs := List.rec (motive := fun _ => (List α → Rs) → Rs) (fun k => k []) (fun x _ ih k => ih fun r => k (x :: r)) l k
noncomputable def getK (d k : Nat) (t : Tr α) (c : α → Rs) : Rs := Nat.rec (motive := fun _ => Nat → Tr α → Rs) (fun k t => Nat.rec (motive := fun _ => Rs) (Tr.rec (motive := fun _ => Rs) .no c (fun _ _ _ _ => .no) t) (fun _ _ => .no) k) (fun _ ih k t => Tr.rec (motive := fun _ => Rs) .no (fun _ => .no) (fun l r _ _ => Nat.rec (motive := fun _ => Rs) (ih (Nat.shiftRight k 1) l) (fun _ _ => ih (Nat.shiftRight k 1) r) (Nat.land k 1)) t) d k t
/-- What is there, anew. -/
noncomputable def updK (d k : Nat) (x : α) (t : Tr α) (c : Tr α → Rs) : Rs := Nat.rec (motive := fun _ => Nat → Tr α → (Tr α → Rs) → Rs) (fun k t c => Nat.rec (motive := fun _ => Rs) (Tr.rec (motive := fun _ => Rs) .no (fun _ => c (.leaf x)) (fun _ _ _ _ => .no) t) (fun _ _ => .no) k) (fun _ ih k t c => Tr.rec (motive := fun _ => Rs) .no (fun _ => .no) (fun l r _ _ => Nat.rec (motive := fun _ => Rs) (ih (Nat.shiftRight k 1) l fun l => c (.node l r)) (fun _ _ => ih (Nat.shiftRight k 1) r fun r => c (.node l r)) (Nat.land k 1)) t) d k t c
noncomputable def setK (d k : Nat) (x : α) (t : Tr α) (c : Tr α → Rs) : Rs := Nat.rec (motive := fun _ => Nat → Tr α → (Tr α → Rs) → Rs) (fun k _ c => Nat.rec (motive := fun _ => Rs) (c (.leaf x)) (fun _ _ => .no) k) (fun _ ih k t c => Tr.rec (motive := fun _ => Rs) (Nat.rec (motive := fun _ => Rs) (ih (Nat.shiftRight k 1) .nil fun l => c (.node l .nil)) (fun _ _ => ih (Nat.shiftRight k 1) .nil fun r => c (.node .nil r)) (Nat.land k 1)) (fun _ => .no) (fun l r _ _ => Nat.rec (motive := fun _ => Rs) (ih (Nat.shiftRight k 1) l fun l => c (.node l r)) (fun _ _ => ih (Nat.shiftRight k 1) r fun r => c (.node l r)) (Nat.land k 1)) t) d k t c
end
/-- How many blocks: below two to the power of this. -/
noncomputable def dI : Nat := 17
noncomputable def obK (σ : Mem) (id : Nat) (c : Ob → Rs) : Rs := getK dI id σ.h c
/-- n cells from o on. -/
noncomputable def rdT (d : Nat) (m : Tr SV) (o n : Nat) (c : List SV → Rs) : Rs := Nat.rec (motive := fun _ => Nat → (List SV → Rs) → Rs) (fun _ c => c []) (fun _ ih o c => getK d o m fun x => fN (Nat.add o 1) fun o => ih o fun l => c (x :: l)) n o c
noncomputable def rdK (σ : Mem) (id o n : Nat) (c : List SV → Rs) : Rs := obK σ id fun ob => rdT ob.d ob.m o n c
/-- These cells, from o on. -/
noncomputable def wrT (d o : Nat) (l : List SV) (m : Tr SV) (c : Tr SV → Rs) : Rs := List.rec (motive := fun _ => Nat → Tr SV → (Tr SV → Rs) → Rs) (fun _ m c => c m) (fun x _ ih o m c => updK d o x m fun m => fN (Nat.add o 1) fun o => ih o m c) l o m c
noncomputable def wrK (σ : Mem) (id o : Nat) (l : List SV) (c : Mem → Rs) : Rs := obK σ id fun ob => wrT ob.d o l ob.m fun m => updK dI id ⟨ob.e, ob.d, ob.n, m⟩ σ.h fun h => c ⟨σ.n, h, σ.mp⟩
noncomputable def fillT (d o : Nat) (l : List SV) (m : Tr SV) (c : Tr SV → Rs) : Rs := List.rec (motive := fun _ => Nat → Tr SV → (Tr SV → Rs) → Rs) (fun _ m c => c m) (fun x _ ih o m c => setK d o x m fun m => fN (Nat.add o 1) fun o => ih o m c) l o m c
/-- A new block; l: its cells. -/
noncomputable def addK (σ : Mem) (ob : Ob) (c : Nat → Mem → Rs) : Rs := okK (Nat.ble (Nat.add σ.n 1) 131072) (setK dI σ.n ob σ.h fun h => fN (Nat.add σ.n 1) fun n => c σ.n ⟨n, h, σ.mp⟩)
noncomputable def newK (σ : Mem) (e : TypeId) (l : List SV) (c : Nat → Mem → Rs) : Rs := fN l.length fun q => fN (Nat.add (Nat.log2 q) 1) fun d => fillT d 0 l .nil fun m => addK σ ⟨e, d, q, m⟩ c
/-- This block may be gone. -/
noncomputable def killK (σ : Mem) (id : Nat) (c : Mem → Rs) : Rs := updK dI id ⟨0, 0, 0, .nil⟩ σ.h fun h => c ⟨σ.n, h, σ.mp⟩
noncomputable def findK (t : Nat) (l : AEnv) (k : AV → Rs) : Rs := List.rec (motive := fun _ => Rs) .no (fun x _ ih => Bool.rec (motive := fun _ => Rs) ih (k x.2) (Nat.beq x.1 t)) l
/-- A slot anew, in its place. -/
noncomputable def repK (t : Nat) (v : AV) (l : AEnv) (c : AEnv → Rs) : Rs := List.rec (motive := fun _ => (AEnv → Rs) → Rs) (fun c => c [(t, v)]) (fun x r ih c => Bool.rec (motive := fun _ => Rs) (ih fun r => c (x :: r)) (c ((t, v) :: r)) (Nat.beq x.1 t)) l c
/-- m: the slots that are kept. -/
noncomputable def kept (m t : Nat) : Bool := Nat.beq (Nat.land (Nat.shiftRight m t) 1) 1
noncomputable def onV (x : AV) (f : SV → Rs) (g : List SV → Rs) : Rs := AV.rec (motive := fun _ => Rs) f g (fun _ => .no) (fun _ _ => .no) x
noncomputable def onN (x : AV) (f : IntKind → Nat → Rs) : Rs := AV.rec (motive := fun _ => Rs) (fun x => SV.rec (motive := fun _ => Rs) f (fun _ _ => .no) (fun _ => .no) (fun _ => .no) .no (fun _ _ => .no) .no (fun _ _ _ _ => .no) (fun _ _ _ _ _ => .no) (fun _ _ _ _ => .no) .no (fun _ => .no) (fun _ _ => .no) (fun _ => .no) .no x) (fun _ => .no) (fun _ => .no) (fun _ _ => .no) x
noncomputable def onB (x : AV) (a b : Rs) : Rs := AV.rec (motive := fun _ => Rs) (fun x => SV.rec (motive := fun _ => Rs) (fun _ _ => .no) (fun _ _ => .no) (fun q => ifK q a b) (fun _ => .no) .no (fun _ _ => .no) .no (fun _ _ _ _ => .no) (fun _ _ _ _ _ => .no) (fun _ _ _ _ => .no) .no (fun _ => .no) (fun _ _ => .no) (fun _ => .no) .no x) (fun _ => .no) (fun _ => .no) (fun _ _ => .no) x
noncomputable def onS (x : AV) (f : List Nat → Rs) : Rs := AV.rec (motive := fun _ => Rs) (fun x => SV.rec (motive := fun _ => Rs) (fun _ _ => .no) (fun _ _ => .no) (fun _ => .no) f .no (fun _ _ => .no) .no (fun _ _ _ _ => .no) (fun _ _ _ _ _ => .no) (fun _ _ _ _ => .no) .no (fun _ => .no) (fun _ _ => .no) (fun _ => .no) .no x) (fun _ => .no) (fun _ => .no) (fun _ _ => .no) x
noncomputable def onP (x : AV) (f : Nat → Nat → Rs) : Rs := AV.rec (motive := fun _ => Rs) (fun x => SV.rec (motive := fun _ => Rs) (fun _ _ => .no) (fun _ _ => .no) (fun _ => .no) (fun _ => .no) .no f .no (fun _ _ _ _ => .no) (fun _ _ _ _ _ => .no) (fun _ _ _ _ => .no) .no (fun _ => .no) (fun _ _ => .no) (fun _ => .no) .no x) (fun _ => .no) (fun _ => .no) (fun _ _ => .no) x
noncomputable def onE (x : AV) (f : Nat → Rs) : Rs := AV.rec (motive := fun _ => Rs) (fun x => SV.rec (motive := fun _ => Rs) (fun _ _ => .no) (fun _ _ => .no) (fun _ => .no) (fun _ => .no) .no (fun _ _ => .no) .no (fun _ _ _ _ => .no) (fun _ _ _ _ _ => .no) (fun _ _ _ _ => .no) .no f (fun _ _ => .no) (fun _ => .no) .no x) (fun _ => .no) (fun _ => .no) (fun _ _ => .no) x
noncomputable def onX (x : AV) (f : Nat → Nat → Rs) : Rs := AV.rec (motive := fun _ => Rs) (fun x => SV.rec (motive := fun _ => Rs) (fun _ _ => .no) (fun _ _ => .no) (fun _ => .no) (fun _ => .no) .no (fun _ _ => .no) .no (fun _ _ _ _ => .no) (fun _ _ _ _ _ => .no) (fun _ _ _ _ => .no) .no (fun _ => .no) f (fun _ => .no) .no x) (fun _ => .no) (fun _ => .no) (fun _ _ => .no) x
/-- A slice, or a text: nil, as long as its block, with a capacity, empty. -/
noncomputable def onL (x : AV) (f0 : Rs) (fl : Nat → Nat → Nat → Nat → Rs) (fx : Nat → Nat → Nat → Nat → Nat → Rs) (fe : Rs) (fs : List Nat → Rs) (fp : Nat → Nat → Rs) : Rs := AV.rec (motive := fun _ => Rs) (fun x => SV.rec (motive := fun _ => Rs) (fun _ _ => .no) (fun _ _ => .no) (fun _ => .no) fs .no fp f0 fl fx (fun _ _ _ _ => fe) .no (fun _ => .no) (fun _ _ => .no) (fun _ => .no) .no x) (fun _ => .no) (fun _ => .no) (fun _ _ => .no) x
noncomputable def onG (x : AV) (f : List SV → Rs) : Rs := AV.rec (motive := fun _ => Rs) (fun _ => .no) f (fun _ => .no) (fun _ _ => .no) x
noncomputable def onT (x : AV) (f : List TV → Rs) : Rs := AV.rec (motive := fun _ => Rs) (fun _ => .no) (fun _ => .no) f (fun _ _ => .no) x
noncomputable def onF (x : AV) (f : Nat → List SV → Rs) : Rs := AV.rec (motive := fun _ => Rs) (fun _ => .no) (fun _ => .no) (fun _ => .no) f x
abbrev Cl := Nat → List AV → Mem → Rs
abbrev Kt := AV → Mem → Rs
abbrev Gt := En → (AV → Rs) → Rs
abbrev Hd := Cl → En → Mem → Kt → Rs
/-- What an operand gives. -/
structure Wg where
  f : Gt
structure Wgs where
  f : En → (List AV → Rs) → Rs
structure Wps where
  f : En → List SV → (List SV → Rs) → Rs
/-- What an operation does: calls, slots, memory, what comes behind. -/
structure Wh where
  f : Hd
abbrev Kr := En → Mem → Rs
structure Wo where
  f : Cl → En → Mem → Kr → Rs
structure Wc where
  f : Cl → Nat → En → Mem → Rs
noncomputable def noG : Wg := ⟨fun _ _ => .no⟩
noncomputable def noH : Wh := ⟨fun _ _ _ _ => .no⟩
noncomputable def maxK (k : IntKind) : Nat := IntKind.rec (motive := fun _ => Nat) 127 32767 2147483647 9223372036854775807 255 65535 4294967295 18446744073709551615 k
/-- The word of a whole number, as a double; and back. -/
noncomputable def fwB (n : Nat) : Nat := match n with
  | 0 => 0
  | n + 1 => Nat.add (Nat.mul (Nat.add (Nat.log2 (n + 1)) 1022) 4503599627370496) (Nat.mul (n + 1) (Nat.pow 2 (Nat.sub 52 (Nat.log2 (n + 1)))))
noncomputable def unfw (b : Nat) : Nat := match Nat.beq b 0 with
  | true => 0
  | false => Nat.div (Nat.add (Nat.mod b 4503599627370496) 4503599627370496) (Nat.pow 2 (Nat.sub 1075 (Nat.div b 4503599627370496)))
/-- A constant of one cell. -/
noncomputable def cS : Value → Option SV
  | .bool b => some (.b b)
  | .int k (.ofNat n) => match Nat.ble n (maxK k) with
    | true => some (.n k n)
    | false => none
  | .int k (.negSucc n) => match k.signed && Nat.ble n (maxK k) with
    | true => some (.m k n)
    | false => none
  | .string s => match Nat.ble s.data.toList.length maxLen with
    | true => some (.s (s.data.toList.map UInt8.toNat))
    | false => none
  | .pointer none => some .p0
  | .float .f64 b => match Nat.ble (unfw b) 1099511627776 && Nat.beq (fwB (unfw b)) b with
    | true => some (.fl (unfw b))
    | false => none
  | .slice none 0 0 => some .l0
  | .complex .f64 0 0 => some (.cx 0 0)
  | .nilIface => some .i0
  | _ => none
noncomputable def cL (l : List Value) : Option (List SV) := List.rec (motive := fun _ => Option (List SV)) (some []) (fun x _ ih => match cS x, ih with
  | some a, some r => some (a :: r)
  | _, _ => none) l
noncomputable def cA : Value → Option AV
  | .agg cs => match cL cs.toList with
    | some l => some (.g l)
    | none => none
  | v => match cS v with
    | some x => some (.v x)
    | none => none
section
variable {γ : Type}
/-- Numbers and lists reckoned once, when the code is turned. -/
noncomputable def cN (n : Nat) (k : Nat → γ) : γ := Nat.rec (motive := fun _ => γ) (k 0) (fun m _ => k m) (Nat.add n 1)
noncomputable def cU (l : List Nat) (k : List Nat → γ) : γ := List.rec (motive := fun _ => (List Nat → γ) → γ) (fun k => k []) (fun x _ ih k => cN x fun x => ih fun r => k (x :: r)) l k
noncomputable def cV (x : SV) (k : SV → γ) : γ := match x with
  | .s l => cU l fun l => k (.s l)
  | .n i a => cN a fun a => k (.n i a)
  | .m i a => cN a fun a => k (.m i a)
  | x => k x
noncomputable def cVs (l : List SV) (k : List SV → γ) : γ := List.rec (motive := fun _ => (List SV → γ) → γ) (fun k => k []) (fun x _ ih k => cV x fun x => ih fun r => k (x :: r)) l k
end
noncomputable def gtC (x : AV) : Wg := match x with
  | .v x => cV x fun x => ⟨fun _ k => k (.v x)⟩
  | .g l => cVs l fun l => ⟨fun _ k => k (.g l)⟩
  | _ => noG
noncomputable def gtT (m t : Nat) : Wg := match kept m t with
  | true => ⟨fun e k => findK t e.vs k⟩
  | false => ⟨fun e k => findK t e.ts k⟩
noncomputable def gtW (m : Nat) (x : Operand) : Wg := match x with
  | .tmp t => gtT m t
  | .const v => match cA v with
    | some a => gtC a
    | none => noG
  | .func f => ⟨fun _ k => k (.f f [])⟩
  | .global _ => noG
noncomputable def gtsW (m : Nat) (l : List Operand) : Wgs := List.rec (motive := fun _ => Wgs) ⟨fun _ k => k []⟩ (fun x _ r => ⟨fun e k => (gtW m x).f e fun v => r.f e fun l => k (v :: l)⟩) l
/-- The zero value's cells of a type. -/
noncomputable def zA (t : TypeId) : Option (List SV) := match (Tryz.prog.info? t).bind (·.zero) with
  | some v => match cA v with
    | some (.v x) => some [x]
    | some (.g l) => some l
    | _ => none
  | none => none
noncomputable def size (t : TypeId) : Option Nat := match one t with
  | true => some 1
  | false => get l_agg t
/-- Any value of one cell. -/
noncomputable def nu (x : SV) : Bool := SV.rec (motive := fun _ => Bool) (fun _ _ => true) (fun _ _ => true) (fun _ => true) (fun _ => true) true (fun _ _ => true) true (fun _ _ _ _ => true) (fun _ _ _ _ _ => true) (fun _ _ _ _ => true) false (fun _ => true) (fun _ _ => true) (fun _ => true) true x
noncomputable def nuK (x : SV) (r : Rs) : Rs := okK (nu x) r
/-- Of an array's type: how many elements, how many cells each. -/
noncomputable def arr (t : TypeId) : Option (Nat × Nat) := match Tryz.prog.underlying t with
  | some (.array n e) => match size e with
    | some z => some (n, z)
    | none => none
  | _ => none
noncomputable def fieldOf (t : TypeId) (k : Nat) : Option (Nat × TypeId) := match Tryz.prog.underlying t with
  | some (.struct fs) => match fs[k]? with
    | some f => some (f.offset, f.type)
    | none => none
  | _ => none
noncomputable def elemOf (t : TypeId) : Option (TypeId × Nat) := match Tryz.prog.underlying t with
  | some (.slice e) => match size e with
    | some z => some (e, z)
    | none => none
  | _ => none
/-- Kinds told by numbers. -/
noncomputable def kn (k : IntKind) : Nat := IntKind.rec (motive := fun _ => Nat) 0 1 2 3 4 5 6 7 k
noncomputable def kkK (k k' : IntKind) (r : Rs) : Rs := okK (Nat.beq (kn k) (kn k')) r
/-- A number that may be too big. -/
noncomputable def wrN (σ : Mem) (c : Kt) (k : IntKind) (s : Nat) : Rs := IntKind.rec (motive := fun _ => Nat → Rs) (fun s => okK (Nat.ble s 127) (c (.v (.n .i8 s)) σ)) (fun s => okK (Nat.ble s 32767) (c (.v (.n .i16 s)) σ)) (fun s => okK (Nat.ble s 2147483647) (c (.v (.n .i32 s)) σ)) (fun s => okK (Nat.ble s 9223372036854775807) (c (.v (.n .i64 s)) σ)) (fun s => fN (Nat.mod s 256) fun s => c (.v (.n .u8 s)) σ) (fun s => fN (Nat.mod s 65536) fun s => c (.v (.n .u16 s)) σ) (fun s => fN (Nat.mod s 4294967296) fun s => c (.v (.n .u32 s)) σ) (fun s => fN (Nat.mod s 18446744073709551616) fun s => c (.v (.n .u64 s)) σ) k s
/-- s below zero: -(s + 1). -/
noncomputable def wrM (σ : Mem) (c : Kt) (k : IntKind) (s : Nat) : Rs := IntKind.rec (motive := fun _ => Nat → Rs) (fun s => okK (Nat.ble s 127) (c (.v (.m .i8 s)) σ)) (fun s => okK (Nat.ble s 32767) (c (.v (.m .i16 s)) σ)) (fun s => okK (Nat.ble s 2147483647) (c (.v (.m .i32 s)) σ)) (fun s => okK (Nat.ble s 9223372036854775807) (c (.v (.m .i64 s)) σ)) (fun s => fN (Nat.sub 255 (Nat.mod s 256)) fun s => c (.v (.n .u8 s)) σ) (fun s => fN (Nat.sub 65535 (Nat.mod s 65536)) fun s => c (.v (.n .u16 s)) σ) (fun s => fN (Nat.sub 4294967295 (Nat.mod s 4294967296)) fun s => c (.v (.n .u32 s)) σ) (fun s => fN (Nat.sub 18446744073709551615 (Nat.mod s 18446744073709551616)) fun s => c (.v (.n .u64 s)) σ) k s
noncomputable def wrI (σ : Mem) (c : Kt) (k : IntKind) (s : Int) : Rs := Int.rec (motive := fun _ => Rs) (fun s => fN s fun s => wrN σ c k s) (fun s => fN s fun s => wrM σ c k s) s
/-- A whole number, of either sign. -/
noncomputable def onI (x : AV) (f : IntKind → Int → Rs) : Rs := AV.rec (motive := fun _ => Rs) (fun x => SV.rec (motive := fun _ => Rs) (fun k a => f k (.ofNat a)) (fun k a => f k (.negSucc a)) (fun _ => .no) (fun _ => .no) .no (fun _ _ => .no) .no (fun _ _ _ _ => .no) (fun _ _ _ _ _ => .no) (fun _ _ _ _ => .no) .no (fun _ => .no) (fun _ _ => .no) (fun _ => .no) .no x) (fun _ => .no) (fun _ => .no) (fun _ _ => .no) x
/-- Two whole numbers: a short way where neither is negative. -/
noncomputable def iiK (f : IntKind → Nat → Nat → Rs) (g : IntKind → Int → Int → Rs) (x y : AV) : Rs := AV.rec (motive := fun _ => Rs) (fun x => SV.rec (motive := fun _ => Rs) (fun k a => AV.rec (motive := fun _ => Rs) (fun y => SV.rec (motive := fun _ => Rs) (fun k' b => kkK k k' (f k a b)) (fun k' b => kkK k k' (g k (.ofNat a) (.negSucc b))) (fun _ => .no) (fun _ => .no) .no (fun _ _ => .no) .no (fun _ _ _ _ => .no) (fun _ _ _ _ _ => .no) (fun _ _ _ _ => .no) .no (fun _ => .no) (fun _ _ => .no) (fun _ => .no) .no y) (fun _ => .no) (fun _ => .no) (fun _ _ => .no) y) (fun k a => onI y fun k' b => kkK k k' (g k (.negSucc a) b)) (fun _ => .no) (fun _ => .no) .no (fun _ _ => .no) .no (fun _ _ _ _ => .no) (fun _ _ _ _ _ => .no) (fun _ _ _ _ => .no) .no (fun _ => .no) (fun _ _ => .no) (fun _ => .no) .no x) (fun _ => .no) (fun _ => .no) (fun _ _ => .no) x
noncomputable def nnK (f : IntKind → Nat → Nat → Rs) (x y : AV) : Rs := onN x fun k a => onN y fun _ b => f k a b
noncomputable def nkK (f : IntKind → Nat → Nat → Rs) (x y : AV) : Rs := onN x fun k a => onN y fun k' b => kkK k k' (f k a b)
noncomputable def bK (σ : Mem) (c : Kt) (b : Bool) : Rs := Bool.rec (motive := fun _ => Rs) (c (.v (.b false)) σ) (c (.v (.b true)) σ) b
noncomputable def nt (b : Bool) : Bool := Bool.rec (motive := fun _ => Bool) true false b
noncomputable def bI (a b : Int) : Bool := Int.rec (motive := fun _ => Bool) (fun m => Int.rec (motive := fun _ => Bool) (fun n => Nat.ble (Nat.add m 1) n) (fun _ => false) b) (fun m => Int.rec (motive := fun _ => Bool) (fun _ => true) (fun n => Nat.ble (Nat.add n 1) m) b) a
noncomputable def eI (a b : Int) : Bool := Int.rec (motive := fun _ => Bool) (fun m => Int.rec (motive := fun _ => Bool) (fun n => Nat.beq m n) (fun _ => false) b) (fun m => Int.rec (motive := fun _ => Bool) (fun _ => false) (fun n => Nat.beq m n) b) a
noncomputable def eU (a : List Nat) : List Nat → Bool := List.rec (motive := fun _ => List Nat → Bool) (fun b => List.rec (motive := fun _ => Bool) true (fun _ _ _ => false) b) (fun x _ ih b => List.rec (motive := fun _ => Bool) false (fun y r _ => Bool.rec (motive := fun _ => Bool) false (ih r) (Nat.beq x y)) b) a
noncomputable def ltU (a : List Nat) : List Nat → Bool := List.rec (motive := fun _ => List Nat → Bool) (fun b => List.rec (motive := fun _ => Bool) false (fun _ _ _ => true) b) (fun x _ ih b => List.rec (motive := fun _ => Bool) false (fun y r _ => Bool.rec (motive := fun _ => Bool) (Nat.ble (Nat.add x 1) y) (ih r) (Nat.beq x y)) b) a
noncomputable def eB (a b : Bool) : Bool := Bool.rec (motive := fun _ => Bool) (nt b) b a
noncomputable def eN (k k' : IntKind) (b : Bool) : Option Bool := Bool.rec (motive := fun _ => Option Bool) none (some b) (Nat.beq (kn k) (kn k'))
/-- Equality of values of one cell; f: they are texts, else numbers. -/
noncomputable def eF (f : Bool) : SV → SV → Option Bool := match f with
  | true => fun x y => match x, y with
    | .s a, .s b => some (eU a b)
    | _, _ => none
  | false => fun x y => match x, y with
    | .n k a, .n k' b => eN k k' (Nat.beq a b)
    | .m k a, .m k' b => eN k k' (Nat.beq a b)
    | .n k _, .m k' _ => eN k k' false
    | .m k _, .n k' _ => eN k k' false
    | _, _ => none
noncomputable def eT (fl : List Bool) : List SV → List SV → Option Bool := List.rec (motive := fun _ => List SV → List SV → Option Bool) (fun a b => match a, b with
  | [], [] => some true
  | _, _ => none) (fun f _ ih a b => match a, b with
  | x :: a, y :: b => match eF f x y, ih a b with
    | some p, some q => some (p && q)
    | _, _ => none
  | _, _ => none) fl
noncomputable def oB (σ : Mem) (c : Kt) (w : Bool) (x : Option Bool) : Rs := match x with
  | some b => bK σ c (eB w b)
  | none => .no
/-- Numbers or texts compared; w: what is asked. -/
noncomputable def cmK (fI : Int → Int → Bool) (fU : List Nat → List Nat → Bool) (w : Bool) (σ : Mem) (c : Kt) (x y : AV) : Rs := AV.rec (motive := fun _ => Rs) (fun x => SV.rec (motive := fun _ => Rs) (fun k a => onI y fun k' b => kkK k k' (bK σ c (eB w (fI (.ofNat a) b)))) (fun k a => onI y fun k' b => kkK k k' (bK σ c (eB w (fI (.negSucc a) b)))) (fun _ => .no) (fun a => onS y fun b => bK σ c (eB w (fU a b))) .no (fun _ _ => .no) .no (fun _ _ _ _ => .no) (fun _ _ _ _ _ => .no) (fun _ _ _ _ => .no) .no (fun a => onE y fun b => bK σ c (eB w (fI (.ofNat a) (.ofNat b)))) (fun _ _ => .no) (fun _ => .no) .no x) (fun _ => .no) (fun _ => .no) (fun _ _ => .no) x
noncomputable def cmW (fI : Int → Int → Bool) (fU : List Nat → List Nat → Bool) (w : Bool) (m : Nat) (x y : Operand) : Wh := ⟨fun _ e σ c => (gtW m x).f e fun x => (gtW m y).f e fun y => cmK fI fU w σ c x y⟩
noncomputable def ltW (w : Bool) (m : Nat) (x y : Operand) : Wh := cmW bI ltU w m x y
/-- A pointer, nil or not. -/
noncomputable def onQ (x : AV) (f0 : Rs) (f : Nat → Nat → Rs) : Rs := AV.rec (motive := fun _ => Rs) (fun x => SV.rec (motive := fun _ => Rs) (fun _ _ => .no) (fun _ _ => .no) (fun _ => .no) (fun _ => .no) f0 f .no (fun _ _ _ _ => .no) (fun _ _ _ _ _ => .no) (fun _ _ _ _ => .no) .no (fun _ => .no) (fun _ _ => .no) (fun _ => .no) .no x) (fun _ => .no) (fun _ => .no) (fun _ _ => .no) x
noncomputable def eqQ (w : Bool) (σ : Mem) (c : Kt) (x y : AV) : Rs := onQ x (onQ y (bK σ c w) fun _ _ => bK σ c (nt w)) fun _ _ => onQ y (bK σ c (nt w)) fun _ _ => .no
/-- A nil interface. -/
noncomputable def onJ (x : AV) (f : Rs) : Rs := AV.rec (motive := fun _ => Rs) (fun x => SV.rec (motive := fun _ => Rs) (fun _ _ => .no) (fun _ _ => .no) (fun _ => .no) (fun _ => .no) .no (fun _ _ => .no) .no (fun _ _ _ _ => .no) (fun _ _ _ _ _ => .no) (fun _ _ _ _ => .no) .no (fun _ => .no) (fun _ _ => .no) (fun _ => .no) f x) (fun _ => .no) (fun _ => .no) (fun _ _ => .no) x
noncomputable def eqJW (w : Bool) (m : Nat) (x y : Operand) : Wh := match y with
  | .const .nilIface => ⟨fun _ e σ c => (gtW m x).f e fun x => onJ x (bK σ c w)⟩
  | _ => noH
noncomputable def eqZ (w : Bool) (σ : Mem) (c : Kt) (x y : AV) : Rs := onL y (onL x (bK σ c w) (fun _ _ _ _ => bK σ c (nt w)) (fun _ _ _ _ _ => bK σ c (nt w)) .no (fun _ => .no) fun _ _ => .no) (fun _ _ _ _ => .no) (fun _ _ _ _ _ => .no) .no (fun _ => .no) fun _ _ => .no
noncomputable def eqC (w : Bool) (σ : Mem) (c : Kt) (x y : AV) : Rs := onB x (onB y (bK σ c w) (bK σ c (nt w))) (onB y (bK σ c (nt w)) (bK σ c w))
/-- Whether values of a type are like if their cells are: structs of numbers and texts, rows of numbers. -/
noncomputable def flat (fs : List Field) : Nat → Option (List Bool) := List.rec (motive := fun _ => Nat → Option (List Bool)) (fun _ => some []) (fun f _ ih k => match Nat.beq f.offset k && f.name != "_" && Tryz.prog.plainKey f.type, ih (Nat.add k 1) with
  | true, some r => match kindOf f.type, isS f.type with
    | some _, _ => some (false :: r)
    | none, true => some (true :: r)
    | none, false => none
  | _, _ => none) fs
noncomputable def peq (t : TypeId) : Option (List Bool) := match Tryz.prog.eqGuardType Tryz.prog.depth t with
  | true => none
  | false => match Tryz.prog.stoodInHeld t with
    | true => none
    | false => match Tryz.prog.underlying t with
      | some (.struct fs) => flat fs.toList 0
      | some (.array n e) => match (kindOf e).isSome && one e && Tryz.prog.plainKey e with
        | true => some (List.replicate n false)
        | false => none
      | _ => none
noncomputable def eqG (fl : List Bool) (w : Bool) (σ : Mem) (c : Kt) (x y : AV) : Rs := onG x fun x => onG y fun y => oB σ c w (eT fl x y)
noncomputable def eq2 (f : Mem → Kt → AV → AV → Rs) (m : Nat) (x y : Operand) : Wh := ⟨fun _ e σ c => (gtW m x).f e fun x => (gtW m y).f e fun y => f σ c x y⟩
noncomputable def eqW (w : Bool) (m : Nat) (t : TypeId) (x y : Operand) : Wh := match Tryz.prog.underlying t with
  | some .bool => eq2 (eqC w) m x y
  | some (.pointer _) => eq2 (eqQ w) m x y
  | some (.slice _) => eq2 (eqZ w) m x y
  | some (.interface _) => eqJW w m x y
  | some (.struct _) => match peq t with
    | some fl => eq2 (eqG fl w) m x y
    | none => noH
  | some (.array _ _) => match peq t with
    | some fl => eq2 (eqG fl w) m x y
    | none => noH
  | _ => cmW eI eU w m x y
noncomputable def arW (f : Nat → Nat → Nat) (g : Int → Int → Int) (m : Nat) (x y : Operand) : Wh := ⟨fun _ e σ c => (gtW m x).f e fun x => (gtW m y).f e fun y => iiK (fun k a b => fN (f a b) fun s => wrN σ c k s) (fun k a b => wrI σ c k (g a b)) x y⟩
noncomputable def suK (σ : Mem) (c : Kt) (k : IntKind) (a b : Nat) : Rs := ifK (Nat.ble b a) (fN (Nat.sub a b) fun s => c (.v (.n k s)) σ) (fN (Nat.sub (Nat.sub b a) 1) fun s => wrM σ c k s)
noncomputable def suW (m : Nat) (x y : Operand) : Wh := ⟨fun _ e σ c => (gtW m x).f e fun x => (gtW m y).f e fun y => iiK (suK σ c) (fun k a b => wrI σ c k (Int.sub a b)) x y⟩
noncomputable def dvW (f : Nat → Nat → Nat) (m : Nat) (x y : Operand) : Wh := ⟨fun _ e σ c => (gtW m x).f e fun x => (gtW m y).f e fun y => nkK (fun k a b => okK (Nat.ble 1 b) (fN (f a b) fun s => c (.v (.n k s)) σ)) x y⟩
noncomputable def btW (f : Nat → Nat → Nat) (m : Nat) (x y : Operand) : Wh := ⟨fun _ e σ c => (gtW m x).f e fun x => (gtW m y).f e fun y => nkK (fun k a b => fN (f a b) fun s => c (.v (.n k s)) σ) x y⟩
noncomputable def anN (a b : Nat) : Nat := Nat.xor a (Nat.land a b)
noncomputable def kb (k : IntKind) : Nat := IntKind.rec (motive := fun _ => Nat) 8 16 32 64 8 16 32 64 k
noncomputable def shW (m : Nat) (x y : Operand) : Wh := ⟨fun _ e σ c => (gtW m x).f e fun x => (gtW m y).f e fun y => nnK (fun k a b => okK (Nat.ble b (kb k)) (fN (Nat.shiftLeft a b) fun s => wrN σ c k s)) x y⟩
noncomputable def srW (m : Nat) (x y : Operand) : Wh := ⟨fun _ e σ c => (gtW m x).f e fun x => (gtW m y).f e fun y => nnK (fun k a b => okK (Nat.ble b (kb k)) (fN (Nat.shiftRight a b) fun s => c (.v (.n k s)) σ)) x y⟩
/-- Sums of numbers, or of texts. -/
noncomputable def adK (σ : Mem) (c : Kt) (x y : AV) : Rs := AV.rec (motive := fun _ => Rs) (fun x => SV.rec (motive := fun _ => Rs) (fun k a => AV.rec (motive := fun _ => Rs) (fun y => SV.rec (motive := fun _ => Rs) (fun k' b => kkK k k' (fN (Nat.add a b) fun s => wrN σ c k s)) (fun k' b => kkK k k' (wrI σ c k (Int.add (.ofNat a) (.negSucc b)))) (fun _ => .no) (fun _ => .no) .no (fun _ _ => .no) .no (fun _ _ _ _ => .no) (fun _ _ _ _ _ => .no) (fun _ _ _ _ => .no) .no (fun _ => .no) (fun _ _ => .no) (fun _ => .no) .no y) (fun _ => .no) (fun _ => .no) (fun _ _ => .no) y) (fun k a => onI y fun k' b => kkK k k' (wrI σ c k (Int.add (.negSucc a) b))) (fun _ => .no) (fun a => onS y fun b => okK (Nat.ble (a ++ b).length maxLen) (fP (a ++ b) fun s => c (.v (.s s)) σ)) .no (fun _ _ => .no) .no (fun _ _ _ _ => .no) (fun _ _ _ _ _ => .no) (fun _ _ _ _ => .no) .no (fun _ => .no) (fun _ _ => .no) (fun _ => .no) .no x) (fun _ => .no) (fun _ => .no) (fun _ _ => .no) x
noncomputable def adW (m : Nat) (x y : Operand) : Wh := ⟨fun _ e σ c => (gtW m x).f e fun x => (gtW m y).f e fun y => adK σ c x y⟩
noncomputable def biW (m : Nat) (t : TypeId) (op : BinOp) (x y : Operand) : Wh := match op with
  | .add => adW m x y
  | .sub => suW m x y
  | .mul => arW Nat.mul Int.mul m x y
  | .quo => dvW Nat.div m x y
  | .rem => dvW Nat.mod m x y
  | .and => btW Nat.land m x y
  | .or => btW Nat.lor m x y
  | .xor => btW Nat.xor m x y
  | .andNot => btW anN m x y
  | .shl => shW m x y
  | .shr => srW m x y
  | .eql => eqW true m t x y
  | .neq => eqW false m t x y
  | .lss => ltW true m x y
  | .geq => ltW false m x y
  | .gtr => ltW true m y x
  | .leq => ltW false m y x
noncomputable def pkW (m : Nat) (x a b : Operand) : Wh := ⟨fun _ e σ c => (gtW m x).f e fun x => (gtW m a).f e fun a => (gtW m b).f e fun b => onB x (c a σ) (c b σ)⟩
noncomputable def fdW (m : Nat) (x : Operand) (off : Option Nat) : Wh := match off with
  | some off => cN off fun off => ⟨fun _ e σ c => (gtW m x).f e fun x => onP x fun id o => fN (Nat.add o off) fun o => c (.v (.p id o)) σ⟩
  | none => noH
/-- The place of element i of a row of n. -/
noncomputable def ixS (σ : Mem) (c : Kt) (z' id z j n i : Nat) : Rs := okK (Nat.ble (Nat.add i 1) n) (fN (Nat.add (Nat.mul j z) (Nat.mul i z')) fun o => c (.v (.p id o)) σ)
noncomputable def ixW (m : Nat) (t : TypeId) (x i : Operand) : Wh := match arr t with
  | some (n, z) => cN z fun z => cN n fun n => ⟨fun _ e σ c => (gtW m x).f e fun x => (gtW m i).f e fun i => onP x fun id o => onN i fun _ i => okK (Nat.ble (Nat.add i 1) n) (fN (Nat.add o (Nat.mul i z)) fun o => c (.v (.p id o)) σ)⟩
  | none => match es t with
    | some z' => cN z' fun z' => ⟨fun _ e σ c => (gtW m x).f e fun x => (gtW m i).f e fun i => onN i fun _ i => onL x .no (fun id z j n => ixS σ c z' id z j n i) (fun id z j n _ => ixS σ c z' id z j n i) .no (fun _ => .no) fun _ _ => .no⟩
    | none => noH
noncomputable def unW (m : Nat) (op : UnOp) (x : Operand) : Wh := match op with
  | .not => ⟨fun _ e σ c => (gtW m x).f e fun x => onB x (c (.v (.b false)) σ) (c (.v (.b true)) σ)⟩
  | .neg => ⟨fun _ e σ c => (gtW m x).f e fun x => onI x fun k n => wrI σ c k (Int.neg n)⟩
  | _ => noH
noncomputable def nthK {α : Type} (l : List α) (i : Nat) (c : α → Rs) : Rs := List.rec (motive := fun _ => Nat → Rs) (fun _ => .no) (fun x _ ih i => Nat.rec (motive := fun _ => Rs) (c x) (fun i _ => ih i) i) l i
noncomputable def exW (m : Nat) (x : Operand) (k : Nat) : Wh := ⟨fun _ e σ c => (gtW m x).f e fun x => onT x fun l => nthK l k fun x => TV.rec (motive := fun _ => Rs) (fun x => c (.v x) σ) (fun l => c (.g l) σ) x⟩
/-- Part of a list. -/
noncomputable def sub (l : List SV) (o n : Nat) : List SV := (l.drop o).take n
/-- What these cells of a type make; n: how many it has, if it is not one. -/
noncomputable def flW (m : Nat) (x : Operand) (f : Option (Nat × TypeId)) : Wh := match f with
  | some (o, u) => match one u with
    | true => cN o fun o => ⟨fun _ e σ c => (gtW m x).f e fun x => onG x fun l => nthK l o fun x => c (.v x) σ⟩
    | false => match get l_agg u with
      | some n => cN o fun o => cN n fun n => ⟨fun _ e σ c => (gtW m x).f e fun x => onG x fun l => okK (Nat.ble (Nat.add o n) l.length) (fP (sub l o n) fun l => c (.g l) σ)⟩
      | none => noH
  | none => noH
/-- Element i: of a text, or of an array that is a value. -/
noncomputable def elW (m : Nat) (t : TypeId) (x i : Operand) : Wh := match Tryz.prog.underlying t with
  | some (.array n el) => match one el with
    | true => cN n fun n => ⟨fun _ e σ c => (gtW m x).f e fun x => (gtW m i).f e fun i => onG x fun l => onN i fun _ i => okK (Nat.ble (Nat.add i 1) n) (nthK l i fun x => c (.v x) σ)⟩
    | false => match get l_agg el with
      | some z => cN n fun n => cN z fun z => ⟨fun _ e σ c => (gtW m x).f e fun x => (gtW m i).f e fun i => onG x fun l => onN i fun _ i => okK (Nat.ble (Nat.add i 1) n) (okK (Nat.ble (Nat.mul n z) l.length) (fP (sub l (Nat.mul i z) z) fun l => c (.g l) σ))⟩
      | none => noH
  | some .string => match isS t with
    | true => ⟨fun _ e σ c => (gtW m x).f e fun x => (gtW m i).f e fun i => onS x fun l => onN i fun _ i => nthK l i fun x => c (.v (.n .u8 x)) σ⟩
    | false => noH
  | _ => noH
noncomputable def put (l : List SV) (o : Nat) (c : List SV) : List SV := l.take o ++ (c ++ l.drop (o + c.length))
/-- Values put into cells, each at its place; off: place and size. -/
noncomputable def ptW (m : Nat) (off : Nat → Option (Nat × Nat)) (ps : List (Nat × Operand)) : Wps := List.rec (motive := fun _ => Wps) ⟨fun _ l k => k l⟩ (fun p _ r => match off p.1 with
  | some (o, z) => ⟨fun e l k => (gtW m p.2).f e fun v => onV v (fun x => nuK x (okK (Nat.beq z 1) (okK (Nat.ble (Nat.add o 1) l.length) (fP (put l o [x]) fun l => r.f e l k)))) fun g => okK (Nat.beq g.length z) (okK (Nat.ble (Nat.add o z) l.length) (fP (put l o g) fun l => r.f e l k))⟩
  | none => ⟨fun _ _ _ => .no⟩) ps
noncomputable def bdW (m : Nat) (off : Nat → Option (Nat × Nat)) (ps : List (Nat × Operand)) (z : Option (List SV)) : Wh := match z with
  | some z => cVs z fun z => ⟨fun _ e σ c => (ptW m off ps).f e z fun l => c (.g l) σ⟩
  | none => noH
noncomputable def offA (z : Nat) (i : Nat) : Option (Nat × Nat) := some (Nat.mul i z, z)
noncomputable def offS (t : TypeId) (i : Nat) : Option (Nat × Nat) := match fieldOf t i with
  | some (o, u) => match size u with
    | some z => some (o, z)
    | none => none
  | none => none
noncomputable def buW (m : Nat) (t : TypeId) (ps : List (Nat × Operand)) : Wh := match arr t with
  | some (_, s) => bdW m (offA s) ps (zA t)
  | none => match Tryz.prog.underlying t with
    | some (.struct _) => match Tryz.prog.built t [] with
      | some _ => bdW m (offS t) ps (zA t)
      | none => noH
    | _ => noH
noncomputable def scK (l : List AV) (k : List SV → Rs) : Rs := List.rec (motive := fun _ => (List SV → Rs) → Rs) (fun k => k []) (fun x _ ih k => onV x (fun x => nuK x (ih fun l => k (x :: l))) fun _ => .no) l k
noncomputable def mfW (m : Nat) (fn : Fn) (a b : List Operand) : Wh := match fn with
  | .func f => match a with
    | [] => ⟨fun _ e σ c => (gtsW m b).f e fun y => scK y fun l => c (.f f l) σ⟩
    | _ => noH
  | _ => noH
/-- The bounds of a part. -/
structure Wb where
  f : En → Nat → (Nat → Rs) → Rs
noncomputable def bnW (m : Nat) (x : Option Operand) : Wb := match x with
  | none => ⟨fun _ d k => k d⟩
  | some x => ⟨fun e _ k => (gtW m x).f e fun v => onN v fun _ n => k n⟩
noncomputable def cutS (σ : Mem) (c : Kt) (l : List Nat) (a b : Nat) : Rs := okK (Nat.ble a b) (okK (Nat.ble b l.length) (fP ((l.drop a).take (Nat.sub b a)) fun l => c (.v (.s l)) σ))
noncomputable def cutL (σ : Mem) (c : Kt) (id z j n a b : Nat) : Rs := okK (Nat.ble a b) (okK (Nat.ble b n) (ifK (Nat.ble (Nat.add a 1) n) (fN (Nat.add j a) fun i => fN (Nat.sub b a) fun r => c (.v (.l id z i r)) σ) (ifK (Nat.beq a 0) (c (.v (.l id z j 0)) σ) (c (.v (.le id z j a)) σ))))
noncomputable def cutX (σ : Mem) (c : Kt) (id z j m a b : Nat) : Rs := okK (Nat.ble a b) (okK (Nat.ble b m) (ifK (Nat.ble (Nat.add a 1) m) (fN (Nat.add j a) fun i => fN (Nat.sub b a) fun r => fN (Nat.sub m a) fun q => c (.v (.lx id z i r q)) σ) (c (.v (.lx id z j 0 0)) σ)))
noncomputable def cut0 (σ : Mem) (c : Kt) (a b : Nat) : Rs := okK (Nat.beq a 0) (okK (Nat.beq b 0) (c (.v .l0) σ))
noncomputable def zzK (z z' : Nat) (r : Rs) : Rs := okK (Nat.beq z z') r
noncomputable def slW (m : Nat) (t : TypeId) (x : Operand) (lo hi mx : Option Operand) : Wh := match isS t with
  | true => match mx with
    | none => ⟨fun _ e σ c => (gtW m x).f e fun x => (bnW m lo).f e 0 fun a => onS x fun l => fN l.length fun n => (bnW m hi).f e n fun b => cutS σ c l a b⟩
    | some _ => noH
  | false => match es t with
    | some z' => cN z' fun z' => match mx with
      | none => ⟨fun _ e σ c => (gtW m x).f e fun x => (bnW m lo).f e 0 fun a => onL x ((bnW m hi).f e 0 fun b => cut0 σ c a b) (fun id z j n => zzK z z' ((bnW m hi).f e n fun b => cutL σ c id z j n a b)) (fun id z j n q => zzK z z' ((bnW m hi).f e n fun b => cutX σ c id z j q a b)) .no (fun _ => .no) fun _ _ => .no⟩
      | some mx => match hi with
        | some hi => ⟨fun _ e σ c => (gtW m x).f e fun x => (bnW m lo).f e 0 fun a => (bnW m (some hi)).f e 0 fun b => (bnW m (some mx)).f e 0 fun q => onL x .no (fun id z j n => zzK z z' (okK (Nat.ble q n) (cutX σ c id z j q a b))) (fun id z j _ q0 => zzK z z' (okK (Nat.ble q q0) (cutX σ c id z j q a b))) .no (fun _ => .no) fun _ _ => .no⟩
        | none => noH
    | none => match arr t, mx with
      | some (n, 1), none => cN n fun n => ⟨fun _ e σ c => (gtW m x).f e fun x => (bnW m lo).f e 0 fun a => (bnW m hi).f e n fun b => onP x fun id o => okK (Nat.ble n maxLen) (cutX σ c id 1 o n a b)⟩
      | _, _ => noH
noncomputable def lnK (σ : Mem) (c : Kt) (n : Nat) : Rs := okK (Nat.ble n 9223372036854775807) (c (.v (.n .i64 n)) σ)
noncomputable def i64K (σ : Mem) (c : Kt) (n : Nat) : Rs := fN n fun n => lnK σ c n
noncomputable def lnW (m : Nat) (t : TypeId) (x : Operand) : Wh := match isS t with
  | true => ⟨fun _ e σ c => (gtW m x).f e fun x => onS x fun l => i64K σ c l.length⟩
  | false => match es t with
    | some _ => ⟨fun _ e σ c => (gtW m x).f e fun x => onL x (c (.v (.n .i64 0)) σ) (fun _ _ _ n => lnK σ c n) (fun _ _ _ n _ => lnK σ c n) (c (.v (.n .i64 0)) σ) (fun _ => .no) fun _ _ => .no⟩
    | none => noH
/-- The least, the greatest of two. -/
noncomputable def mnW (up : Bool) (m : Nat) (x y : Operand) : Wh := ⟨fun _ e σ c => (gtW m x).f e fun x => (gtW m y).f e fun y => onI x fun k a => onI y fun k' b => kkK k k' (ifK (eB up (bI a b)) (c y σ) (c x σ))⟩
/-- A slice's cells: how many elements, the cells. -/
noncomputable def srK (σ : Mem) (z : Nat) (x : AV) (k : Nat → List SV → Rs) : Rs := onL x (k 0 []) (fun id z' j n => rdK σ id (Nat.mul j z') (Nat.mul n z) fun l => k n l) (fun id z' j n _ => rdK σ id (Nat.mul j z') (Nat.mul n z) fun l => k n l) (k 0 []) (fun _ => .no) fun _ _ => .no
/-- A text's bytes as cells. -/
noncomputable def stK (x : AV) (k : Nat → List SV → Rs) : Rs := onS x fun s => fN s.length fun n => fP (s.map fun c => .n .u8 c) fun l => k n l
noncomputable def ldW (m : Nat) (t : TypeId) (x : Operand) : Wh := match one t with
  | true => ⟨fun _ e σ c => (gtW m x).f e fun p => onP p fun id o => obK σ id fun ob => getK ob.d o ob.m fun x => c (.v x) σ⟩
  | false => match get l_agg t with
    | some n => cN n fun n => ⟨fun _ e σ c => (gtW m x).f e fun p => onP p fun id o => rdK σ id o n fun l => c (.g l) σ⟩
    | none => noH
noncomputable def ob1 (σ : Mem) (c : Kt) (id o : Nat) (x : SV) : Rs := obK σ id fun ob => updK ob.d o x ob.m fun m => updK dI id ⟨ob.e, ob.d, ob.n, m⟩ σ.h fun h => c (.v .u) ⟨σ.n, h, σ.mp⟩
noncomputable def stW (m : Nat) (t : TypeId) (x y : Operand) : Wh := match one t with
  | true => ⟨fun _ e σ c => (gtW m x).f e fun p => (gtW m y).f e fun v => onP p fun id o => onV v (fun x => nuK x (ob1 σ c id o x)) fun _ => .no⟩
  | false => match get l_agg t with
    | some n => cN n fun n => ⟨fun _ e σ c => (gtW m x).f e fun p => (gtW m y).f e fun v => onP p fun id o => onG v fun l => okK (Nat.beq l.length n) (okK (Nat.ble 1 n) (wrK σ id o l fun σ => c (.v .u) σ))⟩
    | none => noH
noncomputable def alW (t : TypeId) (z : Option (List SV)) : Wh := match z with
  | some z => cVs z fun z => ⟨fun _ _ σ c => newK σ t z fun id σ => c (.v (.p id 0)) σ⟩
  | none => noH
noncomputable def bxW (m : Nat) (t : TypeId) (x : Operand) : Wh := ⟨fun _ e σ c => (gtW m x).f e fun v => onV v (fun x => nuK x (newK σ t [x] fun id σ => c (.v (.p id 0)) σ)) fun l => newK σ t l fun id σ => c (.v (.p id 0)) σ⟩
noncomputable def an (a b : Bool) : Bool := Bool.rec (motive := fun _ => Bool) false b a
noncomputable def rep (l : List SV) (n : Nat) : List SV := Nat.rec (motive := fun _ => List SV) [] (fun _ ih => l ++ ih) n
/-- A slice literal: every element is told, one behind the other. -/
noncomputable def rw0 (x : Option (TypeId × Nat)) : Wh := match x with
  | some (el, z) => cN z fun z => ⟨fun _ _ σ c => newK σ el [] fun id σ => c (.v (.lx id z 0 0 0)) σ⟩
  | none => noH
noncomputable def rwW (m : Nat) (n : Nat) (ps : List (Nat × Operand)) (x : Option (TypeId × Nat)) : Wh := match n, ps with
  | 0, [] => rw0 x
  | n, ps => match x with
    | some (el, z) => match zA el with
      | some zs => match an (Nat.beq zs.length z) (an (Nat.ble 1 n) (an (Nat.ble 1 z) (Nat.ble (Nat.mul n z) 16777216))) with
        | false => noH
        | true => cN z fun z => cN n fun n => cVs (rep zs n) fun l => ⟨fun _ e σ c => (ptW m (offA z) ps).f e l fun l => newK σ el l fun id σ => c (.v (.lx id z 0 n n)) σ⟩
      | none => noH
    | none => noH
/-- Whether an element of this type takes few bytes. -/
noncomputable def few (t : TypeId) : Bool := match Tryz.prog.info? t with
  | some i => Nat.ble i.bytes 1000000
  | none => false
noncomputable def mkK (σ : Mem) (c : Kt) (el z : Nat) (zs : List SV) (a b : AV) : Rs := onN a fun _ n => onN b fun _ q => okK (Nat.ble n q) (okK (Nat.ble q 65536) (fP (rep zs q) fun l => newK σ el l fun id σ => c (.v (.lx id z 0 n q)) σ))
noncomputable def mkW (m : Nat) (n q : Operand) (x : Option (TypeId × Nat)) : Wh := match x with
  | some (el, z) => match few el, zA el with
    | true, some zs => match Nat.beq zs.length z with
      | false => noH
      | true => cN z fun z => cVs zs fun zs => ⟨fun _ e σ c => (gtW m n).f e fun a => (gtW m q).f e fun b => mkK σ c el z zs a b⟩
    | _, _ => noH
  | none => noH
noncomputable def byK (l : List SV) (k : List Nat → Rs) : Rs := List.rec (motive := fun _ => (List Nat → Rs) → Rs) (fun k => k []) (fun x _ ih k => onN (.v x) fun q a => kkK q .u8 (ih fun r => k (a :: r))) l k
noncomputable def cvI (m : Nat) (k : IntKind) (x : Operand) : Wh := ⟨fun _ e σ c => (gtW m x).f e fun v => onI v fun _ a => wrI σ c k a⟩
noncomputable def cvW (m : Nat) (s d : TypeId) (x : Operand) : Wh := match kindOf d with
  | some k => match kindOf s with
    | some _ => cvI m k x
    | none => match k, Tryz.prog.underlying s with
      | .i64, some (.float .f64) => ⟨fun _ e σ c => (gtW m x).f e fun v => onE v fun a => c (.v (.n .i64 a)) σ⟩
      | _, _ => noH
  | none => match isS d with
    | true => match isS s with
      | true => ⟨fun _ e σ c => (gtW m x).f e fun v => onS v fun _ => c v σ⟩
      | false => match elemOf s with
        | some (el, 1) => match kindOf el with
          | some .u8 => ⟨fun _ e σ c => (gtW m x).f e fun v => srK σ 1 v fun _ l => byK l fun l => okK (Nat.ble l.length maxLen) (c (.v (.s l)) σ)⟩
          | _ => noH
        | _ => noH
    | false => match elemOf d with
      | some (el, 1) => match kindOf el with
        | some .u8 => match isS s with
          | true => ⟨fun _ e σ c => (gtW m x).f e fun v => onS v fun l => fN l.length fun n => okK (Nat.ble 1 n) (fP (l.map fun c => .n .u8 c) fun r => newK σ el r fun id σ => c (.v (.l id 1 0 n)) σ)⟩
          | false => match Nat.beq s d with
            | true => ⟨fun _ e σ c => (gtW m x).f e fun v => onL v .no (fun id _ _ _ => obK σ id fun ob => getK ob.d 0 ob.m fun _ => c v σ) (fun id _ _ _ _ => obK σ id fun ob => getK ob.d 0 ob.m fun _ => c v σ) .no (fun _ => .no) fun _ _ => .no⟩
            | false => noH
        | _ => noH
      | _ => match Tryz.prog.underlying d, kindOf s with
        | some (.float .f64), some _ => ⟨fun _ e σ c => (gtW m x).f e fun v => onN v fun _ a => okK (Nat.ble a 1099511627776) (c (.v (.fl a)) σ)⟩
        | _, _ => noH
noncomputable def apF (σ : Mem) (c : Kt) (z id n q : Nat) (ob : Ob) (new : List SV) : Rs := fillT ob.d ob.n new ob.m fun t => fN (Nat.add ob.n new.length) fun k => killK σ id fun σ => addK σ ⟨ob.e, ob.d, k, t⟩ fun id σ => fN (Nat.add n q) fun n => c (.v (.l id z 0 n)) σ
noncomputable def apS (σ : Mem) (c : Kt) (el z id n q : Nat) (ob : Ob) (new : List SV) : Rs := rdT ob.d ob.m 0 (Nat.mul n z) fun old => fP (old ++ new) fun l => killK σ id fun σ => newK σ el l fun id σ => fN (Nat.add n q) fun n => c (.v (.l id z 0 n)) σ
noncomputable def apL (σ : Mem) (c : Kt) (el z id n q : Nat) (new : List SV) : Rs := obK σ id fun ob => okK (Nat.beq ob.e el) (getK ob.d 0 ob.m fun _ => ifK (an (Nat.beq ob.n (Nat.mul n z)) (Nat.ble (Nat.add ob.n new.length) (Nat.shiftLeft 1 ob.d))) (apF σ c z id n q ob new) (apS σ c el z id n q ob new))
noncomputable def apX (σ : Mem) (c : Kt) (el z id j n k q : Nat) (new : List SV) : Rs := ifK (Nat.ble (Nat.add n q) k) (fN (Nat.mul (Nat.add j n) z) fun o => wrK σ id o new fun σ => fN (Nat.add n q) fun n => c (.v (.lx id z j n k)) σ) (rdK σ id (Nat.mul j z) (Nat.mul n z) fun old => fP (old ++ new) fun l => newK σ el l fun id σ => fN (Nat.add n q) fun n => c (.v (.l id z 0 n)) σ)
noncomputable def apK (σ : Mem) (c : Kt) (el z : Nat) (s : AV) (q : Nat) (new : List SV) : Rs := onL s (Nat.rec (motive := fun _ => Rs) (c (.v .l0) σ) (fun _ _ => okK (Nat.ble q 1000000) (newK σ el new fun id σ => c (.v (.l id z 0 q)) σ)) q) (fun id z' j n => okK (Nat.beq j 0) (zzK z' z (okK (Nat.ble (Nat.add n q) 1000000) (Nat.rec (motive := fun _ => Rs) (c s σ) (fun _ _ => apL σ c el z id n q new) q)))) (fun id z' j n k => zzK z' z (okK (Nat.ble (Nat.add n q) 1000000) (Nat.rec (motive := fun _ => Rs) (c s σ) (fun _ _ => apX σ c el z id j n k q new) q))) .no (fun _ => .no) fun _ _ => .no
/-- What is appended or copied: a slice's cells, or a text's bytes. -/
structure Ws where
  f : Mem → AV → (Nat → List SV → Rs) → Rs
noncomputable def scW (el z : Nat) (t u : TypeId) : Option Ws := match isS u with
  | true => match Nat.beq z 1, kindOf el with
    | true, some .u8 => some ⟨fun _ => stK⟩
    | _, _ => none
  | false => match Nat.beq t u with
    | true => some ⟨fun σ => srK σ z⟩
    | false => none
noncomputable def apW (m : Nat) (t u : TypeId) (x y : Operand) : Wh := match elemOf t with
  | some (el, z) => match few el, zA el with
    | true, some zs => match Nat.beq zs.length z, Nat.ble 1 z, scW el z t u with
      | true, true, some r => cN z fun z => ⟨fun _ e σ c => (gtW m x).f e fun s => (gtW m y).f e fun y => r.f σ y fun q new => apK σ c el z s q new⟩
      | _, _, _ => noH
    | _, _ => noH
  | none => noH
noncomputable def cpT (σ : Mem) (c : Kt) (z id z' j n q : Nat) (new : List SV) : Rs := zzK z' z (fN (Nat.min q n) fun r => Nat.rec (motive := fun _ => Rs) (c (.v (.n .i64 0)) σ) (fun _ _ => fP (new.take (Nat.mul r z)) fun l => fN (Nat.mul j z) fun o => wrK σ id o l fun σ => lnK σ c r) r)
noncomputable def cpK (σ : Mem) (c : Kt) (z : Nat) (s : AV) (q : Nat) (new : List SV) : Rs := onL s (c (.v (.n .i64 0)) σ) (fun id z' j n => cpT σ c z id z' j n q new) (fun id z' j n _ => cpT σ c z id z' j n q new) (c (.v (.n .i64 0)) σ) (fun _ => .no) fun _ _ => .no
noncomputable def cpW (m : Nat) (t u : TypeId) (x y : Operand) : Wh := match elemOf t with
  | some (el, z) => match Nat.ble 1 z, scW el z t u with
    | true, some r => cN z fun z => ⟨fun _ e σ c => (gtW m x).f e fun s => (gtW m y).f e fun y => r.f σ y fun q new => cpK σ c z s q new⟩
    | _, _ => noH
  | none => noH
noncomputable def clT (σ : Mem) (c : Kt) (z : Nat) (zs : List SV) (id z' j n : Nat) : Rs := zzK z' z (Nat.rec (motive := fun _ => Rs) (c (.t []) σ) (fun _ _ => fP (rep zs n) fun l => fN (Nat.mul j z) fun o => wrK σ id o l fun σ => c (.t []) σ) n)
/-- A slice's elements set to zero. -/
noncomputable def clW (m : Nat) (t : TypeId) (x : Operand) : Wh := match elemOf t with
  | some (el, z) => match zA el with
    | some zs => match Nat.beq zs.length z, Nat.ble 1 z with
      | true, true => cN z fun z => cVs zs fun zs => ⟨fun _ e σ c => (gtW m x).f e fun x => onL x (c (.t []) σ) (fun id z' j n => clT σ c z zs id z' j n) (fun id z' j n _ => clT σ c z zs id z' j n) (c (.t []) σ) (fun _ => .no) fun _ _ => .no⟩
      | _, _ => noH
    | none => noH
  | none => noH
noncomputable def bfW (m : Nat) (b : Builtin) (a : List Operand) (ts : List TypeId) : Wh := match b, a, ts with
  | .len, [x], [t] => lnW m t x
  | .append, [x, y], [t, u] => apW m t u x y
  | .copy, [x, y], [t, u] => cpW m t u x y
  | .clear, [x], [t] => clW m t x
  | .complex, [x, y], [_, _] => ⟨fun _ e σ c => (gtW m x).f e fun x => (gtW m y).f e fun y => onE x fun a => onE y fun b => c (.v (.cx a b)) σ⟩
  | .real, [x], [_] => ⟨fun _ e σ c => (gtW m x).f e fun x => onX x fun a _ => c (.v (.fl a)) σ⟩
  | .imag, [x], [_] => ⟨fun _ e σ c => (gtW m x).f e fun x => onX x fun _ b => c (.v (.fl b)) σ⟩
  | .min, [x, y], [_, _] => mnW false m x y
  | .max, [x, y], [_, _] => mnW true m x y
  | _, _, _ => noH
/-- Behind a call. -/
noncomputable def rvK (c : Kt) (r : Rs) : Rs := Rs.rec (motive := fun _ => Rs) .no (fun x _ σ => Ex.rec (motive := fun _ => Rs) .no (fun _ => .no) (fun _ => .no) .no (fun v => c v σ) x) r
noncomputable def n_ad64 : Option Nat := some 245
/-- The sum of two numbers and a carry. -/
noncomputable def adR (σ : Mem) (c : Kt) (x y z : AV) : Rs := onN x fun k a => kkK k .u64 (onN y fun k b => kkK k .u64 (onN z fun k q => kkK k .u64 (okK (Nat.ble q 1) (fN (Nat.add (Nat.add a b) q) fun s => fN (Nat.mod s 18446744073709551616) fun lo => fN (Nat.div s 18446744073709551616) fun hi => c (.t [.v (.n .u64 lo), .v (.n .u64 hi)]) σ))))
noncomputable def ad3 (σ : Mem) (c : Kt) (l : List AV) : Rs := List.rec (motive := fun _ => Rs) .no (fun x l _ => List.rec (motive := fun _ => Rs) .no (fun y l _ => List.rec (motive := fun _ => Rs) .no (fun z l _ => List.rec (motive := fun _ => Rs) (adR σ c x y z) (fun _ _ _ => .no) l) l) l) l
noncomputable def caW (m : Nat) (k : Callee) (a : List Operand) (ts : List TypeId) : Wh := match k with
  | .value (.func f) => match bit m_cal f with
    | true => ⟨fun ih e σ c => (gtsW m a).f e fun vs => rvK c (ih f vs σ)⟩
    | false => match n_ad64 with
      | some q => match Nat.beq q f with
        | true => ⟨fun _ e σ c => (gtsW m a).f e fun vs => ad3 σ c vs⟩
        | false => noH
      | none => noH
  | .value (.tmp t) => ⟨fun ih e σ c => (gtT m t).f e fun v => (gtsW m a).f e fun vs => onF v fun g caps => okK (bit m_cal g) (fP (vs ++ caps.map AV.v) fun vs => rvK c (ih g vs σ))⟩
  | .builtin b => bfW m b a ts
  | _ => noH
noncomputable def onM (x : AV) (f : Nat → Rs) : Rs := AV.rec (motive := fun _ => Rs) (fun x => SV.rec (motive := fun _ => Rs) (fun _ _ => .no) (fun _ _ => .no) (fun _ => .no) (fun _ => .no) .no (fun _ _ => .no) .no (fun _ _ _ _ => .no) (fun _ _ _ _ _ => .no) (fun _ _ _ _ => .no) .no (fun _ => .no) (fun _ _ => .no) f .no x) (fun _ => .no) (fun _ => .no) (fun _ _ => .no) x
/-- What a list says of a number. -/
noncomputable def asL {α : Type} (k : Nat) (l : List (Nat × α)) : Option α := List.rec (motive := fun _ => Option α) none (fun p _ ih => Bool.rec (motive := fun _ => Option α) ih (some p.2) (Nat.beq p.1 k)) l
noncomputable def asK {α : Type} (x : Option α) (f : α → Rs) : Rs := match x with
  | some a => f a
  | none => .no
noncomputable def zeB (v : Option Value) : Bool := match v with
  | some (.int .i64 (.ofNat n)) => Nat.beq n 0
  | _ => false
noncomputable def mpT (t : TypeId) : Bool := match Tryz.prog.underlying t with
  | some (.map kt et) => match kindOf kt with
    | some .i64 => zeB ((Tryz.prog.info? et).bind (·.zero))
    | _ => false
  | _ => false
/-- A map from texts to numbers (only the empty one can be looked up). -/
noncomputable def mpS (t : TypeId) : Bool := match Tryz.prog.underlying t with
  | some (.map kt et) => match Tryz.prog.underlying kt with
    | some .string => zeB ((Tryz.prog.info? et).bind (·.zero))
    | _ => false
  | _ => false
noncomputable def mkM (t : TypeId) : Wh := match mpT t || mpS t with
  | true => ⟨fun _ _ σ c => fN (Nat.add σ.n 1) fun n => c (.v (.mp σ.n)) ⟨n, σ.h, (σ.n, []) :: σ.mp⟩⟩
  | false => noH
noncomputable def lkK (σ : Mem) (c : Kt) (a : Nat) (l : List (Nat × Nat)) : Rs := match asL a l with
  | some v => okK (Nat.ble v 9223372036854775807) (c (.t [.v (.n .i64 v), .v (.b true)]) σ)
  | none => c (.t [.v (.n .i64 0), .v (.b false)]) σ
noncomputable def lkW (m : Nat) (t : TypeId) (x y : Operand) : Wh := match mpT t with
  | true => ⟨fun _ e σ c => (gtW m x).f e fun x => (gtW m y).f e fun y => onM x fun id => onN y fun k a => kkK k .i64 (asK (asL id σ.mp) fun l => lkK σ c a l)⟩
  | false => noH
noncomputable def nilK (l : List (Nat × Nat)) (r : Rs) : Rs := List.rec (motive := fun _ => Rs) r (fun _ _ _ => .no) l
noncomputable def leW (m : Nat) (t : TypeId) (x y : Operand) : Wh := match mpS t with
  | true => ⟨fun _ e σ c => (gtW m x).f e fun x => (gtW m y).f e fun y => onM x fun id => onS y fun _ => asK (asL id σ.mp) fun l => nilK l (c (.v (.n .i64 0)) σ)⟩
  | false => noH
noncomputable def muK (σ : Mem) (c : Kt) (id a b : Nat) (l : List (Nat × Nat)) : Rs := match asL a l with
  | some _ => .no
  | none => fP (l ++ [(a, b)]) fun l => c (.v .u) ⟨σ.n, σ.h, (id, l) :: σ.mp⟩
noncomputable def muW (m : Nat) (t : TypeId) (x y z : Operand) : Wh := match mpT t with
  | true => ⟨fun _ e σ c => (gtW m x).f e fun x => (gtW m y).f e fun y => (gtW m z).f e fun z => onM x fun id => onN y fun k a => kkK k .i64 (onN z fun k b => kkK k .i64 (asK (asL id σ.mp) fun l => muK σ c id a b l))⟩
  | false => noH
noncomputable def mvW (m : Nat) (x : Operand) : Wh := ⟨fun _ e σ c => (gtW m x).f e fun v => c v σ⟩
noncomputable def opW (m : Nat) (op : Op) : Wh := match op with
  | .move x => mvW m x
  | .assign x => mvW m x
  | .pick x a b => pkW m x a b
  | .nilCheck x => ⟨fun _ e σ c => (gtW m x).f e fun v => onP v fun id o => c (.v (.p id o)) σ⟩
  | .fieldAddr s x f => match Nat.blt f 100 with
    | true => fdW m x (fo s f)
    | false => noH
  | .indexAddr t x i => ixW m t x i
  | .binOp op t x y _ => biW m t op x y
  | .unOp op _ x => unW m op x
  | .extract x k => exW m x k
  | .field t x k => flW m x (fieldOf t k)
  | .index t x i => elW m t x i
  | .build t ps => buW m t ps.toList
  | .makeFunc fn a b => mfW m fn a.toList b.toList
  | .slice t x lo hi mx => slW m t x lo hi mx
  | .load t x => ldW m t x
  | .store t x y => stW m t x y
  | .alloc t => alW t (zA t)
  | .box t x => bxW m t x
  | .buildSlice t n ps => rwW m n ps.toList (elemOf t)
  | .makeSlice t n q => mkW m n q (elemOf t)
  | .convert s d x => cvW m s d x
  | .makeMap t none => mkM t
  | .lookup t x y true => lkW m t x y
  | .lookup t x y false => leW m t x y
  | .mapUpdate t x y z => muW m t x y z
  | .call cl => caW m cl.callee cl.args.toList cl.argTypes.toList
  | _ => noH
/-- A slot gets its value. -/
structure Wd where
  f : En → AV → (En → Rs) → Rs
noncomputable def puW (m : Nat) (d : Option Nat) : Wd := match d with
  | none => ⟨fun e _ c => c e⟩
  | some d => match kept m d with
    | true => ⟨fun e v c => repK d v e.vs fun vs => c ⟨vs, e.ts, e.hs, e.ms⟩⟩
    | false => ⟨fun e v c => c ⟨e.vs, (d, v) :: e.ts, e.hs, e.ms⟩⟩
/-- What a guard says. -/
noncomputable def bqK (x : AV) (want : Bool) (a b : Rs) : Rs := AV.rec (motive := fun _ => Rs) (fun x => SV.rec (motive := fun _ => Rs) (fun _ _ => .no) (fun _ _ => .no) (fun q => ifK (eB q want) a b) (fun _ => .no) .no (fun _ _ => .no) .no (fun _ _ _ _ => .no) (fun _ _ _ _ _ => .no) (fun _ _ _ _ => .no) b (fun _ => .no) (fun _ _ => .no) (fun _ => .no) .no x) (fun _ => .no) (fun _ => .no) (fun _ _ => .no) x
noncomputable def dstOf (full : List Oper) (j : Nat) : Option Nat := List.rec (motive := fun _ => Nat → Option Nat) (fun _ => none) (fun o _ ih j => Nat.rec (motive := fun _ => Option Nat) o.dst (fun j _ => ih j) j) full j
/-- Whether an operation has a slot as it must. -/
noncomputable def dsO (d : Option Nat) (op : Op) : Bool := match d, op with
  | none, .store .. => true
  | some _, .store .. => false
  | none, .mapUpdate .. => true
  | some _, .mapUpdate .. => false
  | some _, _ => true
  | none, .call cl => match cl.callee with
    | .value _ => true
    | .builtin .append => true
    | .builtin .copy => true
    | .builtin .clear => true
    | _ => false
  | none, _ => false
/-- An operation with its slot and its guard. -/
noncomputable def noO : Wo := ⟨fun _ _ _ _ => .no⟩
/-- An operation that may be left out. -/
noncomputable def gdW (m : Nat) (full : List Oper) (o : Oper) (w : Wo) : Wo := match o.guard with
  | none => w
  | some (j, want) => match dstOf full j with
    | some d => ⟨fun ih e σ c => (gtT m d).f e fun q => bqK q want (w.f ih e σ c) ((puW m o.dst).f e (.v .u) fun e => c e σ)⟩
    | none => noO
noncomputable def orW (m : Nat) (full : List Oper) (o : Oper) : Wo := match dsO o.dst o.op with
  | false => noO
  | true => gdW m full o ⟨fun ih e σ c => (opW m o.op).f ih e σ fun v σ => (puW m o.dst).f e v fun e => c e σ⟩
/-- A read that is held: what was read, where. -/
abbrev Nt := Nat × Nat × List SV
structure Wl where
  f : En → Mem → (AV → Nt → Rs) → Rs
noncomputable def ldH (m : Nat) (t : TypeId) (x : Operand) : Wl := match one t with
  | true => ⟨fun e σ c => (gtW m x).f e fun p => onP p fun id o => obK σ id fun ob => getK ob.d o ob.m fun y => c (.v y) (id, o, [y])⟩
  | false => match get l_agg t with
    | some n => cN n fun n => ⟨fun e σ c => (gtW m x).f e fun p => onP p fun id o => rdK σ id o n fun l => c (.g l) (id, o, l)⟩
    | none => ⟨fun _ _ _ => .no⟩
noncomputable def noL : Wl := ⟨fun _ _ _ => .no⟩
noncomputable def cvN (σ : Mem) (c : AV → Nt → Rs) (id z j n : Nat) : Rs := zzK z 1 (rdK σ id j n fun l => byK l fun r => okK (Nat.ble r.length maxLen) (c (.v (.s r)) (id, j, l)))
/-- A text made of bytes that are held. -/
noncomputable def rdH (m : Nat) (op : Op) : Wl := match op with
  | .convert s _ x => match isS s, elemOf s with
    | false, some (el, 1) => match kindOf el with
      | some .u8 => ⟨fun e σ c => (gtW m x).f e fun v => onL v .no (fun id z j n => cvN σ c id z j n) (fun id z j n _ => cvN σ c id z j n) .no (fun _ => .no) fun _ _ => .no⟩
      | _ => noL
    | _, _ => noL
  | _ => noL
/-- An operation in a region whose reads are held; hs: their slots. -/
noncomputable def orH (m : Nat) (hs : List Nat) (full : List Oper) (o : Oper) : Wo := match dsO o.dst o.op with
  | false => noO
  | true => match o.op with
    | .load t x => match memb hs o.dst with
      | true => gdW m full o ⟨fun _ e σ c => (ldH m t x).f e σ fun v n => (puW m o.dst).f e v fun e => c ⟨e.vs, e.ts, n :: e.hs, e.ms⟩ σ⟩
      | false => gdW m full o ⟨fun ih e σ c => (opW m (.load t x)).f ih e σ fun v σ' => (puW m o.dst).f e v fun e => c e σ'⟩
    | op => match cls isI isS op with
      | .w => gdW m full o ⟨fun ih e σ c => (opW m op).f ih e σ fun v σ => (puW m o.dst).f e v fun e => c ⟨e.vs, e.ts, e.hs, σ :: e.ms⟩ σ⟩
      | .p => gdW m full o ⟨fun ih e σ c => (opW m op).f ih e σ fun v σ' => (puW m o.dst).f e v fun e => c e σ'⟩
      | .r => match memb hs o.dst with
        | true => gdW m full o ⟨fun _ e σ c => (rdH m op).f e σ fun v n => (puW m o.dst).f e v fun e => c ⟨e.vs, e.ts, n :: e.hs, e.ms⟩ σ⟩
        | false => gdW m full o ⟨fun ih e σ c => (opW m op).f ih e σ fun v σ' => (puW m o.dst).f e v fun e => c e σ'⟩
      | .h => noO
noncomputable def regH (m : Nat) (hs : List Nat) (full l : List Oper) : Wo := List.rec (motive := fun _ => Wo) ⟨fun _ e σ c => c e σ⟩ (fun o _ r => ⟨fun ih e σ c => (orH m hs full o).f ih e σ fun e σ => r.f ih e σ c⟩) l
noncomputable def sE (x y : SV) : Bool := match x, y with
  | .n k a, .n k' b => an (Nat.beq (kn k) (kn k')) (Nat.beq a b)
  | .m k a, .m k' b => an (Nat.beq (kn k) (kn k')) (Nat.beq a b)
  | .b a, .b b => eB a b
  | .s a, .s b => eU a b
  | .p0, .p0 => true
  | .p i a, .p j b => an (Nat.beq i j) (Nat.beq a b)
  | .fl a, .fl b => Nat.beq a b
  | .mp i, .mp j => Nat.beq i j
  | .cx a b, .cx a' b' => an (Nat.beq a a') (Nat.beq b b')
  | .le i a b c, .le j a' b' c' => an (Nat.beq i j) (an (Nat.beq a a') (an (Nat.beq b b') (Nat.beq c c')))
  | .l0, .l0 => true
  | .i0, .i0 => true
  | .l i a b c, .l j a' b' c' => an (Nat.beq i j) (an (Nat.beq a a') (an (Nat.beq b b') (Nat.beq c c')))
  | .lx i a b c d, .lx j a' b' c' d' => an (Nat.beq i j) (an (Nat.beq a a') (an (Nat.beq b b') (an (Nat.beq c c') (Nat.beq d d'))))
  | _, _ => false
noncomputable def lE (a : List SV) : List SV → Bool := List.rec (motive := fun _ => List SV → Bool) (fun b => match b with
  | [] => true
  | _ :: _ => false) (fun x _ ih b => match b with
  | [] => false
  | y :: r => an (sE x y) (ih r)) a
/-- What was read is there in all memories. -/
noncomputable def ckM (ms : List Mem) (n : Nt) (r : Rs) : Rs := List.rec (motive := fun _ => Rs) r (fun σ _ ih => rdK σ n.1 n.2.1 n.2.2.length fun l => okK (lE n.2.2 l) ih) ms
noncomputable def ckA (σ0 : Mem) (ms : List Mem) (hs : List Nt) (r : Rs) : Rs := List.rec (motive := fun _ => Rs) r (fun n _ ih => okK (Nat.ble (Nat.add n.1 1) σ0.n) (ckM (σ0 :: ms) n ih)) hs
noncomputable def regW (m : Nat) (full l : List Oper) : Wo := List.rec (motive := fun _ => Wo) ⟨fun _ e σ c => c e σ⟩ (fun o _ r => ⟨fun ih e σ c => (orW m full o).f ih e σ fun e σ => r.f ih e σ c⟩) l
noncomputable def sqK (g : En → Mem → Rs) (r : Rs) : Rs := Rs.rec (motive := fun _ => Rs) .no (fun x e σ => Ex.rec (motive := fun _ => Rs) (g e σ) (fun n => .mk (.ext n) e σ) (fun n => .mk (.gto n) e σ) (.mk .ret e σ) (fun _ => .no) x) r
noncomputable def blK (id : Nat) (r : Rs) : Rs := Rs.rec (motive := fun _ => Rs) .no (fun x e σ => Ex.rec (motive := fun _ => Rs) (.mk .nrm e σ) (fun j => ifK (Nat.beq j id) (.mk .nrm e σ) (.mk (.ext j) e σ)) (fun n => .mk (.gto n) e σ) (.mk .ret e σ) (fun _ => .no) x) r
noncomputable def lpK (f : En → Mem → Rs) (n : Nat) : En → Mem → Rs := Nat.rec (motive := fun _ => En → Mem → Rs) (fun _ _ => .no) (fun _ ih e σ => sqK ih (f e σ)) n
/-- Again from a label, as long as one is gone to. -/
noncomputable def scpK (g : Nat → En → Mem → Rs) (n : Nat) : Rs → Rs := Nat.rec (motive := fun _ => Rs → Rs) (fun _ => .no) (fun _ ag r => Rs.rec (motive := fun _ => Rs) .no (fun x e σ => Ex.rec (motive := fun _ => Rs) (.mk .nrm e σ) (fun n => .mk (.ext n) e σ) (fun l => ag (g l e σ)) (.mk .ret e σ) (fun _ => .no) x) r) n
noncomputable def lbW (go : Code → Wc) (b : Code) (l : Nat) : Wc := match findLabel b l with
  | some rest => go rest
  | none => ⟨fun _ _ _ _ => .no⟩
noncomputable def noC : Wc := ⟨fun _ _ _ _ => .no⟩
/-- Whether two operations are in no order, and the second may change the world. -/
noncomputable def looseW (ops : Array Oper) (A : Array Nat) (i j : Nat) : Bool := match ops[j]? with
  | none => false
  | some o => match cls isI isS o.op with
    | .w => match Nat.ble (Nat.add j 1) i with
      | true => !(A.getD i 0).testBit j
      | false => !(A.getD j 0).testBit i
    | _ => false
/-- The slots of the reads that stand in no order with what may change the world. -/
noncomputable def ldU (ops : Array Oper) (A : Array Nat) (k : Nat) : List Nat := (List.range k).filterMap fun i => match ops[i]? with
  | none => none
  | some o => match o.op, o.dst with
    | .load .., some d => match (List.range ops.size).any (looseW ops A i) with
      | true => some d
      | false => none
    | .convert s t _, some d => match !isS s && isS t && (List.range ops.size).any (looseW ops A i) with
      | true => some d
      | false => none
    | _, _ => none
noncomputable def ldK (ops : Array Oper) (k : Nat) : List Nat := ldU ops (Region.before ops) k
/-- Operations that make one block. -/
noncomputable def isMk (op : Op) : Bool := match op with
  | .alloc _ => true
  | .buildSlice _ n _ => Nat.ble 1 n
  | _ => false
/-- An order of what is left: pre (true: f may come first there), f, post. -/
def freeB (hs : List Nat) (full : Array Oper) (A : Array Nat) (f : Nat) (post : List Nat) : List Nat → List (Nat × Bool) → Bool
  | l, [] => soloL isI isS hs full A l (f :: post) []
  | l, (i, true) :: pre => (l.filter (rdyB full l) == [i, f] || l.filter (rdyB full l) == [f, i]) && (soloL isI isS hs full A (l.erase f) (i :: pre.map Prod.fst ++ post) [] && freeB hs full A f post (l.erase i) pre)
  | l, (i, false) :: pre => (soloB isI isS hs full A l i || l.filter (rdyB full l) == [i]) && freeB hs full A f post (l.erase i) pre
/-- The operations at these places. -/
noncomputable def opsAt (l : List Oper) (is : List Nat) : Option (List Oper) := List.rec (motive := fun _ => Option (List Oper)) (some []) (fun i _ ih => match l[i]?, ih with
  | some o, some r => some (o :: r)
  | _, _ => none) is
/-- The order in which the operation f comes last of all that do not wait for it. -/
def planF (hs : List Nat) (full : Array Oper) (A : Array Nat) (f : Nat) : Nat → List Nat → Option (List (Nat × Bool) × List Nat)
  | 0, _ => none
  | n + 1, l => match l.find? fun i => !(i == f) && soloB isI isS hs full A l i with
    | some i => match planF hs full A f n (l.erase i) with
      | some (pre, post) => some ((i, false) :: pre, post)
      | none => none
    | none => match l.filter (rdyB full l) with
      | [a] => if a == f then some ([], l.erase f) else match planF hs full A f n (l.erase a) with
        | some (pre, post) => some ((a, false) :: pre, post)
        | none => none
      | [a, b] => match planF hs full A f n (l.erase (if a == f then b else a)) with
        | some (pre, post) => some ((if a == f then b else a, true) :: pre, post)
        | none => none
      | _ => none
/-- A region in which an operation that makes a block stands in no order with others. -/
structure Fr0 where
  hs : List Nat
  pre : List (Oper × Bool)
  d : Nat
  d2 : Nat
  f : Oper
  post : List Oper
/-- The slots that are read. -/
def readsT (op : Op) (t : Nat) : Bool := op.operands.toList.any fun x => match x with
  | .tmp u => Nat.beq u t
  | _ => false
/-- The operation puts no slot of f's. -/
def offF (d : Nat) (op : Op) (o : Oper) : Bool := match o.dst with
  | some t => !(Nat.beq t d || readsT op t)
  | none => true
/-- From each place on at which f may come, no slot of f's is put. -/
def farF (d : Nat) (op : Op) : List (Oper × Bool) → Bool
  | [] => true
  | (o, true) :: r => offF d op o && r.all (fun x => offF d op x.1) && farF d op r
  | (_, false) :: r => farF d op r
/-- Whether f may be told at its place in this order. -/
noncomputable def frOK (hs : List Nat) (ops : Array Oper) (A : Array Nat) (f : Nat) : Option Fr0 := match ops[f]? with
  | some ⟨some d, op, ty, pos, af, none⟩ => match isMk op && !readsT op d, planF hs ops A f (ops.size + 1) (List.range ops.size) with
    | true, some (pre, post) => match freeB hs ops A f post (List.range ops.size) pre, opsAt ops.toList (pre.map Prod.fst), opsAt ops.toList post with
      | true, some opre, some opost => match farF d op (opre.zip (pre.map Prod.snd)) with
        | true => some ⟨hs, opre.zip (pre.map Prod.snd), d, d, ⟨some d, op, ty, pos, af, none⟩, opost⟩
        | false => none
      | _, _, _ => none
    | _, _ => none
  | _ => none
/-- The same, with a text made of that block's bytes: g; it may come, too, wherever f has come ahead. -/
def freeG (hs : List Nat) (full : Array Oper) (A : Array Nat) (f g : Nat) (post : List Nat) : List Nat → List (Nat × Bool) → Bool
  | l, [] => soloL isI isS hs full A l (f :: g :: post) []
  | l, (i, true) :: pre => (l.filter (rdyB full l) == [i, f] || l.filter (rdyB full l) == [f, i]) && (freeB hs full A g post (l.erase f) ((i, true) :: pre) && freeG hs full A f g post (l.erase i) pre)
  | l, (i, false) :: pre => (soloB isI isS hs full A l i || l.filter (rdyB full l) == [i]) && freeG hs full A f g post (l.erase i) pre
/-- A text made of the bytes in slot d, a slice of type t. -/
noncomputable def isCv (d : Nat) (t : TypeId) (op : Op) : Bool := match op with
  | .convert s u (.tmp x) => Nat.beq x d && (Nat.beq s t && (isS u && (!isS s && match elemOf s with
    | some (el, 1) => match kindOf el with
      | some .u8 => true
      | _ => false
    | _ => false)))
  | _ => false
noncomputable def findG (ops : Array Oper) (d : Nat) (t : TypeId) : Option Nat := (List.range ops.size).find? fun i => match ops[i]? with
  | some o => isCv d t o.op
  | none => false
/-- No slot of the text's is put where f may come, or behind. -/
def farG (d2 : Nat) : List (Oper × Bool) → Bool
  | [] => true
  | x :: r => (match x.1.dst with
    | some t => !Nat.beq t d2
    | none => true) && farG d2 r
noncomputable def bsT (op : Op) : Option TypeId := match op with
  | .buildSlice t n _ => match Nat.ble 1 n with
    | true => some t
    | false => none
  | _ => none
noncomputable def frOG (hs0 : List Nat) (ops : Array Oper) (A : Array Nat) (f : Nat) : Option Fr0 := match ops[f]? with
  | some ⟨some d, op, ty, pos, af, none⟩ => match bsT op, readsT op d with
    | some t, false => match findG ops d t with
      | some g => match ops[g]? with
        | some ⟨some d2, op2, ty2, pos2, af2, none⟩ => match isCv d t op2 && !Nat.beq d d2 && !readsT op d2, planF (hs0.filter fun t => !Nat.beq t d2) ops A f (ops.size + 1) (List.range ops.size) with
          | true, some (pre, g' :: post) => match Nat.beq g' g && !memb (hs0.filter fun t => !Nat.beq t d2) (some d2) && freeG (hs0.filter fun t => !Nat.beq t d2) ops A f g post (List.range ops.size) pre, opsAt ops.toList (pre.map Prod.fst), opsAt ops.toList post with
            | true, some opre, some opost => match farF d op (opre.zip (pre.map Prod.snd)) && farG d2 (opre.zip (pre.map Prod.snd)) with
              | true => some ⟨hs0.filter fun t => !Nat.beq t d2, opre.zip (pre.map Prod.snd), d, d2, ⟨some d, op, ty, pos, af, none⟩, ⟨some d2, op2, ty2, pos2, af2, none⟩ :: opost⟩
              | false => none
            | _, _, _ => none
          | _, _ => none
        | _ => none
      | none => none
    | _, _ => none
  | _ => none
inductive Rk where
  | bad | text
  | held (cut : Nat)
  | free (x : Fr0)
  | freg (x : Fr0)
/-- Where a region's stores stand, and its end. -/
noncomputable def stP (l : List Oper) (k : Nat) : List Nat := List.rec (motive := fun _ => Nat → List Nat) (fun k => [k]) (fun o _ ih k => match o.op with
  | .store .. => k :: ih (Nat.add k 1)
  | _ => ih (Nat.add k 1)) l k
/-- The first of these places at which a region may be cut. -/
noncomputable def cutR (ops : Array Oper) (l : List Nat) : Rk := List.rec (motive := fun _ => Rk) .bad (fun k _ ih => cN k fun k => match seqOK2 isI isS (ldK ops k) k ops (Region.before ops) with
  | true => .held k
  | false => ih) l
/-- Whether a region may be run in the order of the text. N: how many slots. -/
noncomputable def regOK (N : Nat) (drawn : Bool) (ops : Array Oper) : Rk := match dstOK N ops with
  | false => .bad
  | true => match drawn with
    | false => .text
    | true => match seqOK isI isS [] ops (Region.before ops) with
      | true => .text
      | false => match cutR ops (stP ops.toList 0) with
        | .bad => match ancOK ops (Region.before ops) with
          | true => match (List.range ops.size).findSome? (frOG (ldK ops ops.size) ops (Region.before ops)) with
            | some x => .freg x
            | none => match (List.range ops.size).findSome? (frOK (ldK ops ops.size) ops (Region.before ops)) with
              | some x => .free x
              | none => .bad
          | false => .bad
        | x => x
/-- A slot is known no more. -/
noncomputable def delL (d : Nat) (l : AEnv) : AEnv := List.rec (motive := fun _ => AEnv) [] (fun x _ ih => Bool.rec (motive := fun _ => AEnv) (x :: ih) ih (Nat.beq x.1 d)) l
noncomputable def delE (d : Nat) (e : En) : En := ⟨delL d e.vs, delL d e.ts, e.hs, e.ms⟩
noncomputable def regF (m : Nat) (hs : List Nat) (full : List Oper) (d d2 : Nat) (l : List (Oper × Bool)) : Wo := List.rec (motive := fun _ => Wo) ⟨fun _ e σ c => c e σ⟩ (fun o _ r => ⟨fun ih e σ c => (orH m hs full o.1).f ih (delE d (delE d2 e)) σ fun e σ => r.f ih e σ c⟩) l
noncomputable def codW (N m : Nat) (d : Nat) : Code → Wc := Nat.rec (motive := fun _ => Code → Wc) (fun _ => noC) (fun _ go c => match c with
  | .skip => ⟨fun _ _ e σ => .mk .nrm e σ⟩
  | .label _ => ⟨fun _ _ e σ => .mk .nrm e σ⟩
  | .region _ ops drawn => match regOK N drawn ops with
    | .text => ⟨fun ih _ e σ => (regW m ops.toList ops.toList).f ih ⟨e.vs, [], [], []⟩ σ fun e σ => .mk .nrm e σ⟩
    | .held k => ⟨fun ih _ e σ => (regH m (ldK ops k) ops.toList (ops.toList.take k)).f ih ⟨e.vs, [], [], []⟩ σ fun e' σ' => ckA σ e'.ms e'.hs ((regW m ops.toList (ops.toList.drop k)).f ih e' σ' fun e σ => .mk .nrm e σ)⟩
    | .free x => ⟨fun ih _ e σ => (regF m x.hs ops.toList x.d x.d2 x.pre).f ih ⟨e.vs, [], [], []⟩ σ fun e' σ' => (orH m x.hs ops.toList x.f).f ih e' σ' fun e' σ' => (regH m x.hs ops.toList x.post).f ih e' σ' fun e' σ' => ckA σ e'.ms e'.hs (.mk .nrm e' σ')⟩
    | .freg x => ⟨fun ih _ e σ => (regF m x.hs ops.toList x.d x.d2 x.pre).f ih ⟨e.vs, [], [], []⟩ σ fun e' σ' => (orH m x.hs ops.toList x.f).f ih e' σ' fun e' σ' => (regH m x.hs ops.toList x.post).f ih e' σ' fun e' σ' => ckA σ e'.ms e'.hs (.mk .nrm e' σ')⟩
    | .bad => noC
  | .seq a b => ⟨fun ih n e σ => sqK ((go b).f ih n) ((go a).f ih n e σ)⟩
  | .cond x a b => ⟨fun ih n e σ => (gtW m x).f e fun q => onB q ((go a).f ih n e σ) ((go b).f ih n e σ)⟩
  | .block id b => ⟨fun ih n e σ => blK id ((go b).f ih n e σ)⟩
  | .loop b => ⟨fun ih n e σ => lpK ((go b).f ih n) n e σ⟩
  | .scope b => ⟨fun ih n e σ => scpK (fun l => (lbW go b l).f ih n) n ((go b).f ih n e σ)⟩
  | .exit id => ⟨fun _ _ e σ => .mk (.ext id) e σ⟩
  | .goto l => ⟨fun _ _ e σ => .mk (.gto l) e σ⟩
  | .ret => ⟨fun _ _ e σ => .mk .ret e σ⟩
  | _ => noC) d
/-- The arguments' slots, those that are kept. -/
noncomputable def paK (m : Nat) (l : List AV) (c : AEnv → Rs) : Rs := List.rec (motive := fun _ => Nat → (AEnv → Rs) → Rs) (fun _ c => c []) (fun x _ ih k c => fN (Nat.add k 1) fun k' => ih k' fun r => ifK (kept m k) (c ((k, x) :: r)) (c r)) l 0 c
structure Wr where
  f : En → Mem → (AV → Rs) → Rs
structure Wrs where
  f : En → Mem → (List AV → Rs) → Rs
/-- What is given back. -/
noncomputable def reW (m : Nat) (r : ResultVar) : Wr := match r with
  | .tmp t => ⟨fun e _ k => (gtT m t).f e k⟩
  | .cell a t => match one t with
    | true => ⟨fun e σ k => (gtT m a).f e fun p => onP p fun id o => obK σ id fun ob => getK ob.d o ob.m fun x => k (.v x)⟩
    | false => match get l_agg t with
      | some n => cN n fun n => ⟨fun e σ k => (gtT m a).f e fun p => onP p fun id o => rdK σ id o n fun l => k (.g l)⟩
      | none => ⟨fun _ _ _ => .no⟩
noncomputable def resW (m : Nat) (l : List ResultVar) : Wrs := List.rec (motive := fun _ => Wrs) ⟨fun _ _ k => k []⟩ (fun x _ r => ⟨fun e σ k => (reW m x).f e σ fun v => r.f e σ fun l => k (v :: l)⟩) l
noncomputable def tuK (l : List AV) (k : List TV → Rs) : Rs := List.rec (motive := fun _ => (List TV → Rs) → Rs) (fun k => k []) (fun x _ ih k => onV x (fun x => ih fun l => k (.v x :: l)) fun g => ih fun l => k (.g g :: l)) l k
noncomputable def toK (e : En) (σ : Mem) (l : List AV) : Rs := List.rec (motive := fun _ => Rs) (.mk (.val (.t [])) e σ) (fun x r _ => List.rec (motive := fun _ => Rs) (.mk (.val x) e σ) (fun _ _ _ => tuK (x :: r) fun l => .mk (.val (.t l)) e σ) r) l
noncomputable def reK (w : Wrs) (r : Rs) : Rs := Rs.rec (motive := fun _ => Rs) .no (fun x e σ => Ex.rec (motive := fun _ => Rs) (w.f e σ fun l => toK e σ l) (fun _ => .no) (fun _ => .no) (w.f e σ fun l => toK e σ l) (fun _ => .no) x) r
structure Wf where
  f : Cl → List AV → Mem → Rs
/-- How often a loop may turn, how deep code may be. -/
noncomputable def lF : Nat := 1000000
/-- What a function is told by: its code, with the slots that it keeps, or a plain function. -/
inductive Fe where
  | code (fn : Func) (m : Nat)
  | orc (o : List AV → Mem → Rs)
noncomputable def fnW (x : Option Fe) : Wf := match x with
  | some (.code fn m) => match fn.body with
    | some c => ⟨fun ih vs σ => okK (Nat.ble vs.length fn.ntmps) <| paK m vs fun l => reK (resW m fn.results.toList) ((codW fn.ntmps m 1000 c).f ih lF ⟨l, [], [], []⟩ σ)⟩
    | none => ⟨fun _ _ _ => .no⟩
  | some (.orc o) => ⟨fun _ vs σ => o vs σ⟩
  | none => ⟨fun _ _ _ => .no⟩
noncomputable def nthF (l : List (Nat × Fe)) (f : Nat) : Option Fe := List.rec (motive := fun _ => Option Fe) none (fun x _ ih => match Nat.beq x.1 f with
  | true => some x.2
  | false => ih) l
/-- A call; tab: the functions. -/
noncomputable def run (tab : List (Nat × Fe)) (n : Nat) : Cl := Nat.rec (motive := fun _ => Cl) (fun _ _ _ => .no) (fun _ ih f vs σ => (fnW (nthF tab f)).f ih vs σ) n
noncomputable def ok (r : Rs) : Bool := Rs.rec (motive := fun _ => Bool) false (fun x _ _ => Ex.rec (motive := fun _ => Bool) false (fun _ => false) (fun _ => false) false (fun v => match v with
  | .v (.b b) => b
  | _ => false) x) r
end Rn
end Eng
end Go.Proofs.YtalnkjpgnkfedaaGreatDoor
