/-
  Parts of the proof: Ea, EngM, Es, Et, Eu, Ev, Ew, Ex, Ey, Exu, Ez, Eya.
-/
import Derived.Carry
import Derived.ChangeKeysEq
import Derived.Laws.StructEq
import Derived.Lib.ItoaNum
import Derived.Lib.LaidTab
import Derived.MapKept
import Derived.Test.YtpfelapckcojjaaGreatDoorQB0a
set_option maxRecDepth 100000
set_option maxHeartbeats 64000000
namespace Go.Proofs.YtpfelapckcojjaaGreatDoor
open Go.RowKit
namespace Eng
namespace Rn
inductive SV where
 | n (k : IntKind) (a : Nat)
 | m (k : IntKind) (a : Nat)
 | b (x : Bool)
 | s (l : List Nat)
 | p0
 | p (id o : Nat)
 | l0
 | l (id z j n : Nat)
 | lx (id z j n c : Nat)
 | le (id z j a : Nat)
 | u
 | fl (n : Nat)
 | cx (a b : Nat)
 | mp (id : Nat)
 | i0
 | x (k : IntKind) (id : Nat)
 | sl (l : List Nat)
inductive TV where
 | v (x : SV)
 | g (l : List SV)
inductive AV where
 | v (x : SV)
 | g (l : List SV)
 | t (l : List TV)
 | f (fn : Nat) (l : List SV)
inductive Tr (α : Type) where
 | nil
 | leaf (v : α)
 | node (l r : Tr α)
structure Ob where
 e : TypeId
 d : Nat
 n : Nat
 m : Tr SV
structure Mem where
 n : Nat
 h : Tr Ob
 mp : List (Nat × List (Nat × Nat))
abbrev AEnv := List (Nat × AV)
structure En where
 vs : AEnv
 ts : AEnv
 hs : List (Nat × Nat × List SV)
 ms : List Mem
inductive Ex where
 | nrm
 | ext (n : Nat)
 | gto (n : Nat)
 | ret
 | val (v : AV)
inductive Rs where
 | no
 | mk (x : Ex) (e : En) (m : Mem)
noncomputable def fN (n : Nat) (k : Nat → Rs) : Rs := Nat.rec (motive := fun _ => Rs) (k 0) (fun m _ => k m) (Nat.add n 1)
noncomputable def okK (b : Bool) (r : Rs) : Rs := Bool.rec (motive := fun _ => Rs) .no r b
noncomputable def ifK (b : Bool) (x y : Rs) : Rs := Bool.rec (motive := fun _ => Rs) y x b
section
variable {α : Type}
noncomputable def fP (l : List α) (k : List α → Rs) : Rs := List.rec (motive := fun _ => (List α → Rs) → Rs) (fun k => k []) (fun x _ ih k => ih fun r => k (x :: r)) l k
noncomputable def getK (d k : Nat) (t : Tr α) (c : α → Rs) : Rs := Nat.rec (motive := fun _ => Nat → Tr α → Rs) (fun k t => Nat.rec (motive := fun _ => Rs) (Tr.rec (motive := fun _ => Rs) .no c (fun _ _ _ _ => .no) t) (fun _ _ => .no) k) (fun _ ih k t => Tr.rec (motive := fun _ => Rs) .no (fun _ => .no) (fun l r _ _ => Nat.rec (motive := fun _ => Rs) (ih (Nat.shiftRight k 1) l) (fun _ _ => ih (Nat.shiftRight k 1) r) (Nat.land k 1)) t) d k t
noncomputable def updK (d k : Nat) (x : α) (t : Tr α) (c : Tr α → Rs) : Rs := Nat.rec (motive := fun _ => Nat → Tr α → (Tr α → Rs) → Rs) (fun k t c => Nat.rec (motive := fun _ => Rs) (Tr.rec (motive := fun _ => Rs) .no (fun _ => c (.leaf x)) (fun _ _ _ _ => .no) t) (fun _ _ => .no) k) (fun _ ih k t c => Tr.rec (motive := fun _ => Rs) .no (fun _ => .no) (fun l r _ _ => Nat.rec (motive := fun _ => Rs) (ih (Nat.shiftRight k 1) l fun l => c (.node l r)) (fun _ _ => ih (Nat.shiftRight k 1) r fun r => c (.node l r)) (Nat.land k 1)) t) d k t c
noncomputable def setK (d k : Nat) (x : α) (t : Tr α) (c : Tr α → Rs) : Rs := Nat.rec (motive := fun _ => Nat → Tr α → (Tr α → Rs) → Rs) (fun k _ c => Nat.rec (motive := fun _ => Rs) (c (.leaf x)) (fun _ _ => .no) k) (fun _ ih k t c => Tr.rec (motive := fun _ => Rs) (Nat.rec (motive := fun _ => Rs) (ih (Nat.shiftRight k 1) .nil fun l => c (.node l .nil)) (fun _ _ => ih (Nat.shiftRight k 1) .nil fun r => c (.node .nil r)) (Nat.land k 1)) (fun _ => .no) (fun l r _ _ => Nat.rec (motive := fun _ => Rs) (ih (Nat.shiftRight k 1) l fun l => c (.node l r)) (fun _ _ => ih (Nat.shiftRight k 1) r fun r => c (.node l r)) (Nat.land k 1)) t) d k t c
end
noncomputable def dI : Nat := 17
noncomputable def obK (σ : Mem) (id : Nat) (c : Ob → Rs) : Rs := getK dI id σ.h c
noncomputable def rdT (d : Nat) (m : Tr SV) (o n : Nat) (c : List SV → Rs) : Rs := Nat.rec (motive := fun _ => Nat → (List SV → Rs) → Rs) (fun _ c => c []) (fun _ ih o c => getK d o m fun x => fN (Nat.add o 1) fun o => ih o fun l => c (x :: l)) n o c
noncomputable def rdK (σ : Mem) (id o n : Nat) (c : List SV → Rs) : Rs := obK σ id fun ob => rdT ob.d ob.m o n c
noncomputable def wrT (d o : Nat) (l : List SV) (m : Tr SV) (c : Tr SV → Rs) : Rs := List.rec (motive := fun _ => Nat → Tr SV → (Tr SV → Rs) → Rs) (fun _ m c => c m) (fun x _ ih o m c => updK d o x m fun m => fN (Nat.add o 1) fun o => ih o m c) l o m c
noncomputable def wrK (σ : Mem) (id o : Nat) (l : List SV) (c : Mem → Rs) : Rs := obK σ id fun ob => wrT ob.d o l ob.m fun m => updK dI id ⟨ob.e, ob.d, ob.n, m⟩ σ.h fun h => c ⟨σ.n, h, σ.mp⟩
noncomputable def fillT (d o : Nat) (l : List SV) (m : Tr SV) (c : Tr SV → Rs) : Rs := List.rec (motive := fun _ => Nat → Tr SV → (Tr SV → Rs) → Rs) (fun _ m c => c m) (fun x _ ih o m c => setK d o x m fun m => fN (Nat.add o 1) fun o => ih o m c) l o m c
noncomputable def addK (σ : Mem) (ob : Ob) (c : Nat → Mem → Rs) : Rs := okK (Nat.ble (Nat.add σ.n 1) 131072) (setK dI σ.n ob σ.h fun h => fN (Nat.add σ.n 1) fun n => c σ.n ⟨n, h, σ.mp⟩)
noncomputable def newK (σ : Mem) (e : TypeId) (l : List SV) (c : Nat → Mem → Rs) : Rs := fN l.length fun q => fN (Nat.add (Nat.log2 q) 1) fun d => fillT d 0 l .nil fun m => addK σ ⟨e, d, q, m⟩ c
noncomputable def killK (σ : Mem) (id : Nat) (c : Mem → Rs) : Rs := updK dI id ⟨0, 0, 0, .nil⟩ σ.h fun h => c ⟨σ.n, h, σ.mp⟩
noncomputable def findK (t : Nat) (l : AEnv) (k : AV → Rs) : Rs := List.rec (motive := fun _ => Rs) .no (fun x _ ih => Bool.rec (motive := fun _ => Rs) ih (k x.2) (Nat.beq x.1 t)) l
noncomputable def repK (t : Nat) (v : AV) (l : AEnv) (c : AEnv → Rs) : Rs := List.rec (motive := fun _ => (AEnv → Rs) → Rs) (fun c => c [(t, v)]) (fun x r ih c => Bool.rec (motive := fun _ => Rs) (ih fun r => c (x :: r)) (c ((t, v) :: r)) (Nat.beq x.1 t)) l c
noncomputable def kept (m t : Nat) : Bool := Nat.beq (Nat.land (Nat.shiftRight m t) 1) 1
noncomputable def onV (x : AV) (f : SV → Rs) (g : List SV → Rs) : Rs := AV.rec (motive := fun _ => Rs) f g (fun _ => .no) (fun _ _ => .no) x
noncomputable def onN (x : AV) (f : IntKind → Nat → Rs) : Rs := AV.rec (motive := fun _ => Rs) (fun x => SV.rec (motive := fun _ => Rs) f (fun _ _ => .no) (fun _ => .no) (fun _ => .no) .no (fun _ _ => .no) .no (fun _ _ _ _ => .no) (fun _ _ _ _ _ => .no) (fun _ _ _ _ => .no) .no (fun _ => .no) (fun _ _ => .no) (fun _ => .no) .no (fun _ _ => .no) (fun _ => .no) x) (fun _ => .no) (fun _ => .no) (fun _ _ => .no) x
noncomputable def onB (x : AV) (a b : Rs) : Rs := AV.rec (motive := fun _ => Rs) (fun x => SV.rec (motive := fun _ => Rs) (fun _ _ => .no) (fun _ _ => .no) (fun q => ifK q a b) (fun _ => .no) .no (fun _ _ => .no) .no (fun _ _ _ _ => .no) (fun _ _ _ _ _ => .no) (fun _ _ _ _ => .no) .no (fun _ => .no) (fun _ _ => .no) (fun _ => .no) .no (fun _ _ => .no) (fun _ => .no) x) (fun _ => .no) (fun _ => .no) (fun _ _ => .no) x
noncomputable def onS (x : AV) (f : List Nat → Rs) : Rs := AV.rec (motive := fun _ => Rs) (fun x => SV.rec (motive := fun _ => Rs) (fun _ _ => .no) (fun _ _ => .no) (fun _ => .no) f .no (fun _ _ => .no) .no (fun _ _ _ _ => .no) (fun _ _ _ _ _ => .no) (fun _ _ _ _ => .no) .no (fun _ => .no) (fun _ _ => .no) (fun _ => .no) .no (fun _ _ => .no) (fun _ => .no) x) (fun _ => .no) (fun _ => .no) (fun _ _ => .no) x
noncomputable def onP (x : AV) (f : Nat → Nat → Rs) : Rs := AV.rec (motive := fun _ => Rs) (fun x => SV.rec (motive := fun _ => Rs) (fun _ _ => .no) (fun _ _ => .no) (fun _ => .no) (fun _ => .no) .no f .no (fun _ _ _ _ => .no) (fun _ _ _ _ _ => .no) (fun _ _ _ _ => .no) .no (fun _ => .no) (fun _ _ => .no) (fun _ => .no) .no (fun _ _ => .no) (fun _ => .no) x) (fun _ => .no) (fun _ => .no) (fun _ _ => .no) x
noncomputable def onE (x : AV) (f : Nat → Rs) : Rs := AV.rec (motive := fun _ => Rs) (fun x => SV.rec (motive := fun _ => Rs) (fun _ _ => .no) (fun _ _ => .no) (fun _ => .no) (fun _ => .no) .no (fun _ _ => .no) .no (fun _ _ _ _ => .no) (fun _ _ _ _ _ => .no) (fun _ _ _ _ => .no) .no f (fun _ _ => .no) (fun _ => .no) .no (fun _ _ => .no) (fun _ => .no) x) (fun _ => .no) (fun _ => .no) (fun _ _ => .no) x
noncomputable def onX (x : AV) (f : Nat → Nat → Rs) : Rs := AV.rec (motive := fun _ => Rs) (fun x => SV.rec (motive := fun _ => Rs) (fun _ _ => .no) (fun _ _ => .no) (fun _ => .no) (fun _ => .no) .no (fun _ _ => .no) .no (fun _ _ _ _ => .no) (fun _ _ _ _ _ => .no) (fun _ _ _ _ => .no) .no (fun _ => .no) f (fun _ => .no) .no (fun _ _ => .no) (fun _ => .no) x) (fun _ => .no) (fun _ => .no) (fun _ _ => .no) x
noncomputable def onL (x : AV) (f0 : Rs) (fl : Nat → Nat → Nat → Nat → Rs) (fx : Nat → Nat → Nat → Nat → Nat → Rs) (fe : Rs) (fs : List Nat → Rs) (fp : Nat → Nat → Rs) : Rs := AV.rec (motive := fun _ => Rs) (fun x => SV.rec (motive := fun _ => Rs) (fun _ _ => .no) (fun _ _ => .no) (fun _ => .no) fs .no fp f0 fl fx (fun _ _ _ _ => fe) .no (fun _ => .no) (fun _ _ => .no) (fun _ => .no) .no (fun _ _ => .no) (fun _ => .no) x) (fun _ => .no) (fun _ => .no) (fun _ _ => .no) x
noncomputable def onG (x : AV) (f : List SV → Rs) : Rs := AV.rec (motive := fun _ => Rs) (fun _ => .no) f (fun _ => .no) (fun _ _ => .no) x
noncomputable def onT (x : AV) (f : List TV → Rs) : Rs := AV.rec (motive := fun _ => Rs) (fun _ => .no) (fun _ => .no) f (fun _ _ => .no) x
noncomputable def onF (x : AV) (f : Nat → List SV → Rs) : Rs := AV.rec (motive := fun _ => Rs) (fun _ => .no) (fun _ => .no) (fun _ => .no) f x
abbrev Cl := Nat → List AV → Mem → Rs
abbrev Kt := AV → Mem → Rs
abbrev Gt := En → (AV → Rs) → Rs
abbrev Hd := Cl → En → Mem → Kt → Rs
structure Wg where
 f : Gt
structure Wgs where
 f : En → (List AV → Rs) → Rs
structure Wps where
 f : En → List SV → (List SV → Rs) → Rs
structure Wh where
 f : Hd
abbrev Kr := En → Mem → Rs
structure Wo where
 f : Cl → En → Mem → Kr → Rs
structure Wc where
 f : Cl → Nat → En → Mem → Rs
noncomputable def noG : Wg := ⟨fun _ _ => .no⟩
noncomputable def noH : Wh := ⟨fun _ _ _ _ => .no⟩
noncomputable def maxK (k : IntKind) : Nat := IntKind.rec (motive := fun _ => Nat) 127 32767 2147483647 9223372036854775807 255 65535 4294967295 18446744073709551615 k
noncomputable def fwB (n : Nat) : Nat := match n with
 | 0 => 0
 | n + 1 => Nat.add (Nat.mul (Nat.add (Nat.log2 (n + 1)) 1022) 4503599627370496) (Nat.mul (n + 1) (Nat.pow 2 (Nat.sub 52 (Nat.log2 (n + 1)))))
noncomputable def unfw (b : Nat) : Nat := match Nat.beq b 0 with
 | true => 0
 | false => Nat.div (Nat.add (Nat.mod b 4503599627370496) 4503599627370496) (Nat.pow 2 (Nat.sub 1075 (Nat.div b 4503599627370496)))
noncomputable def cS : Value → Option SV
 | .bool b => some (.b b)
 | .int k (.ofNat n) => match Nat.ble n (maxK k) with
  | true => some (.n k n)
  | false => none
 | .int k (.negSucc n) => match k.signed && Nat.ble n (maxK k) with
  | true => some (.m k n)
  | false => none
 | .string s => match Nat.ble s.data.toList.length maxLen with
  | true => some (.s (s.data.toList.map UInt8.toNat))
  | false => none
 | .pointer none => some .p0
 | .float .f64 b => match Nat.ble (unfw b) 1099511627776 && Nat.beq (fwB (unfw b)) b with
  | true => some (.fl (unfw b))
  | false => none
 | .slice none 0 0 => some .l0
 | .complex .f64 0 0 => some (.cx 0 0)
 | .nilIface => some .i0
 | _ => none
noncomputable def cL (l : List Value) : Option (List SV) := List.rec (motive := fun _ => Option (List SV)) (some []) (fun x _ ih => match cS x, ih with
 | some a, some r => some (a :: r)
 | _, _ => none) l
noncomputable def cA : Value → Option AV
 | .agg cs => match cL cs.toList with
  | some l => some (.g l)
  | none => none
 | v => match cS v with
  | some x => some (.v x)
  | none => none
section
variable {γ : Type}
noncomputable def cN (n : Nat) (k : Nat → γ) : γ := Nat.rec (motive := fun _ => γ) (k 0) (fun m _ => k m) (Nat.add n 1)
noncomputable def cU (l : List Nat) (k : List Nat → γ) : γ := List.rec (motive := fun _ => (List Nat → γ) → γ) (fun k => k []) (fun x _ ih k => cN x fun x => ih fun r => k (x :: r)) l k
noncomputable def cV (x : SV) (k : SV → γ) : γ := match x with
 | .s l => cU l fun l => k (.s l)
 | .n i a => cN a fun a => k (.n i a)
 | .m i a => cN a fun a => k (.m i a)
 | x => k x
noncomputable def cVs (l : List SV) (k : List SV → γ) : γ := List.rec (motive := fun _ => (List SV → γ) → γ) (fun k => k []) (fun x _ ih k => cV x fun x => ih fun r => k (x :: r)) l k
end
noncomputable def gtC (x : AV) : Wg := match x with
 | .v x => cV x fun x => ⟨fun _ k => k (.v x)⟩
 | .g l => cVs l fun l => ⟨fun _ k => k (.g l)⟩
 | _ => noG
noncomputable def gtT (m t : Nat) : Wg := match kept m t with
 | true => ⟨fun e k => findK t e.vs k⟩
 | false => ⟨fun e k => findK t e.ts k⟩
noncomputable def gtW (m : Nat) (x : Operand) : Wg := match x with
 | .tmp t => gtT m t
 | .const v => match cA v with
  | some a => gtC a
  | none => noG
 | .func f => ⟨fun _ k => k (.f f [])⟩
 | .global _ => noG
noncomputable def gtsW (m : Nat) (l : List Operand) : Wgs := List.rec (motive := fun _ => Wgs) ⟨fun _ k => k []⟩ (fun x _ r => ⟨fun e k => (gtW m x).f e fun v => r.f e fun l => k (v :: l)⟩) l
noncomputable def zA (t : TypeId) : Option (List SV) := match (Tryz.prog.info? t).bind (·.zero) with
 | some v => match cA v with
  | some (.v x) => some [x]
  | some (.g l) => some l
  | _ => none
 | none => none
noncomputable def size (t : TypeId) : Option Nat := match one t with
 | true => some 1
 | false => get l_agg t
noncomputable def nu (x : SV) : Bool := SV.rec (motive := fun _ => Bool) (fun _ _ => true) (fun _ _ => true) (fun _ => true) (fun _ => true) true (fun _ _ => true) true (fun _ _ _ _ => true) (fun _ _ _ _ _ => true) (fun _ _ _ _ => true) false (fun _ => true) (fun _ _ => true) (fun _ => true) true (fun _ _ => true) (fun _ => true) x
noncomputable def nuK (x : SV) (r : Rs) : Rs := okK (nu x) r
noncomputable def arr (t : TypeId) : Option (Nat × Nat) := match Tryz.prog.underlying t with
 | some (.array n e) => match size e with
  | some z => some (n, z)
  | none => none
 | _ => none
noncomputable def fieldOf (t : TypeId) (k : Nat) : Option (Nat × TypeId) := match Tryz.prog.underlying t with
 | some (.struct fs) => match fs[k]? with
  | some f => some (f.offset, f.type)
  | none => none
 | _ => none
noncomputable def elemOf (t : TypeId) : Option (TypeId × Nat) := match Tryz.prog.underlying t with
 | some (.slice e) => match size e with
  | some z => some (e, z)
  | none => none
 | _ => none
noncomputable def kn (k : IntKind) : Nat := IntKind.rec (motive := fun _ => Nat) 0 1 2 3 4 5 6 7 k
noncomputable def kkK (k k' : IntKind) (r : Rs) : Rs := okK (Nat.beq (kn k) (kn k')) r
noncomputable def wrN (σ : Mem) (c : Kt) (k : IntKind) (s : Nat) : Rs := IntKind.rec (motive := fun _ => Nat → Rs) (fun s => okK (Nat.ble s 127) (c (.v (.n .i8 s)) σ)) (fun s => okK (Nat.ble s 32767) (c (.v (.n .i16 s)) σ)) (fun s => okK (Nat.ble s 2147483647) (c (.v (.n .i32 s)) σ)) (fun s => okK (Nat.ble s 9223372036854775807) (c (.v (.n .i64 s)) σ)) (fun s => fN (Nat.mod s 256) fun s => c (.v (.n .u8 s)) σ) (fun s => fN (Nat.mod s 65536) fun s => c (.v (.n .u16 s)) σ) (fun s => fN (Nat.mod s 4294967296) fun s => c (.v (.n .u32 s)) σ) (fun s => fN (Nat.mod s 18446744073709551616) fun s => c (.v (.n .u64 s)) σ) k s
noncomputable def wrM (σ : Mem) (c : Kt) (k : IntKind) (s : Nat) : Rs := IntKind.rec (motive := fun _ => Nat → Rs) (fun s => okK (Nat.ble s 127) (c (.v (.m .i8 s)) σ)) (fun s => okK (Nat.ble s 32767) (c (.v (.m .i16 s)) σ)) (fun s => okK (Nat.ble s 2147483647) (c (.v (.m .i32 s)) σ)) (fun s => okK (Nat.ble s 9223372036854775807) (c (.v (.m .i64 s)) σ)) (fun s => fN (Nat.sub 255 (Nat.mod s 256)) fun s => c (.v (.n .u8 s)) σ) (fun s => fN (Nat.sub 65535 (Nat.mod s 65536)) fun s => c (.v (.n .u16 s)) σ) (fun s => fN (Nat.sub 4294967295 (Nat.mod s 4294967296)) fun s => c (.v (.n .u32 s)) σ) (fun s => fN (Nat.sub 18446744073709551615 (Nat.mod s 18446744073709551616)) fun s => c (.v (.n .u64 s)) σ) k s
noncomputable def wrI (σ : Mem) (c : Kt) (k : IntKind) (s : Int) : Rs := Int.rec (motive := fun _ => Rs) (fun s => fN s fun s => wrN σ c k s) (fun s => fN s fun s => wrM σ c k s) s
noncomputable def onI (x : AV) (f : IntKind → Int → Rs) : Rs := AV.rec (motive := fun _ => Rs) (fun x => SV.rec (motive := fun _ => Rs) (fun k a => f k (.ofNat a)) (fun k a => f k (.negSucc a)) (fun _ => .no) (fun _ => .no) .no (fun _ _ => .no) .no (fun _ _ _ _ => .no) (fun _ _ _ _ _ => .no) (fun _ _ _ _ => .no) .no (fun _ => .no) (fun _ _ => .no) (fun _ => .no) .no (fun _ _ => .no) (fun _ => .no) x) (fun _ => .no) (fun _ => .no) (fun _ _ => .no) x
noncomputable def iiK (f : IntKind → Nat → Nat → Rs) (g : IntKind → Int → Int → Rs) (x y : AV) : Rs := AV.rec (motive := fun _ => Rs) (fun x => SV.rec (motive := fun _ => Rs) (fun k a => AV.rec (motive := fun _ => Rs) (fun y => SV.rec (motive := fun _ => Rs) (fun k' b => kkK k k' (f k a b)) (fun k' b => kkK k k' (g k (.ofNat a) (.negSucc b))) (fun _ => .no) (fun _ => .no) .no (fun _ _ => .no) .no (fun _ _ _ _ => .no) (fun _ _ _ _ _ => .no) (fun _ _ _ _ => .no) .no (fun _ => .no) (fun _ _ => .no) (fun _ => .no) .no (fun _ _ => .no) (fun _ => .no) y) (fun _ => .no) (fun _ => .no) (fun _ _ => .no) y) (fun k a => onI y fun k' b => kkK k k' (g k (.negSucc a) b)) (fun _ => .no) (fun _ => .no) .no (fun _ _ => .no) .no (fun _ _ _ _ => .no) (fun _ _ _ _ _ => .no) (fun _ _ _ _ => .no) .no (fun _ => .no) (fun _ _ => .no) (fun _ => .no) .no (fun _ _ => .no) (fun _ => .no) x) (fun _ => .no) (fun _ => .no) (fun _ _ => .no) x
noncomputable def nnK (f : IntKind → Nat → Nat → Rs) (x y : AV) : Rs := onN x fun k a => onN y fun _ b => f k a b
noncomputable def nkK (f : IntKind → Nat → Nat → Rs) (x y : AV) : Rs := onN x fun k a => onN y fun k' b => kkK k k' (f k a b)
noncomputable def bK (σ : Mem) (c : Kt) (b : Bool) : Rs := Bool.rec (motive := fun _ => Rs) (c (.v (.b false)) σ) (c (.v (.b true)) σ) b
noncomputable def nt (b : Bool) : Bool := Bool.rec (motive := fun _ => Bool) true false b
noncomputable def bI (a b : Int) : Bool := Int.rec (motive := fun _ => Bool) (fun m => Int.rec (motive := fun _ => Bool) (fun n => Nat.ble (Nat.add m 1) n) (fun _ => false) b) (fun m => Int.rec (motive := fun _ => Bool) (fun _ => true) (fun n => Nat.ble (Nat.add n 1) m) b) a
noncomputable def eI (a b : Int) : Bool := Int.rec (motive := fun _ => Bool) (fun m => Int.rec (motive := fun _ => Bool) (fun n => Nat.beq m n) (fun _ => false) b) (fun m => Int.rec (motive := fun _ => Bool) (fun _ => false) (fun n => Nat.beq m n) b) a
noncomputable def eU (a : List Nat) : List Nat → Bool := List.rec (motive := fun _ => List Nat → Bool) (fun b => List.rec (motive := fun _ => Bool) true (fun _ _ _ => false) b) (fun x _ ih b => List.rec (motive := fun _ => Bool) false (fun y r _ => Bool.rec (motive := fun _ => Bool) false (ih r) (Nat.beq x y)) b) a
noncomputable def ltU (a : List Nat) : List Nat → Bool := List.rec (motive := fun _ => List Nat → Bool) (fun b => List.rec (motive := fun _ => Bool) false (fun _ _ _ => true) b) (fun x _ ih b => List.rec (motive := fun _ => Bool) false (fun y r _ => Bool.rec (motive := fun _ => Bool) (Nat.ble (Nat.add x 1) y) (ih r) (Nat.beq x y)) b) a
noncomputable def eB (a b : Bool) : Bool := Bool.rec (motive := fun _ => Bool) (nt b) b a
noncomputable def eN (k k' : IntKind) (b : Bool) : Option Bool := Bool.rec (motive := fun _ => Option Bool) none (some b) (Nat.beq (kn k) (kn k'))
noncomputable def eF (f : Bool) : SV → SV → Option Bool := match f with
 | true => fun x y => match x, y with
  | .s a, .s b => some (eU a b)
  | _, _ => none
 | false => fun x y => match x, y with
  | .n k a, .n k' b => eN k k' (Nat.beq a b)
  | .m k a, .m k' b => eN k k' (Nat.beq a b)
  | .n k _, .m k' _ => eN k k' false
  | .m k _, .n k' _ => eN k k' false
  | _, _ => none
noncomputable def eT (fl : List Bool) : List SV → List SV → Option Bool := List.rec (motive := fun _ => List SV → List SV → Option Bool) (fun a b => match a, b with
 | [], [] => some true
 | _, _ => none) (fun f _ ih a b => match a, b with
 | x :: a, y :: b => match eF f x y, ih a b with
  | some p, some q => some (p && q)
  | _, _ => none
 | _, _ => none) fl
noncomputable def oB (σ : Mem) (c : Kt) (w : Bool) (x : Option Bool) : Rs := match x with
 | some b => bK σ c (eB w b)
 | none => .no
noncomputable def cmK (fI : Int → Int → Bool) (fU : List Nat → List Nat → Bool) (w : Bool) (σ : Mem) (c : Kt) (x y : AV) : Rs := AV.rec (motive := fun _ => Rs) (fun x => SV.rec (motive := fun _ => Rs) (fun k a => onI y fun k' b => kkK k k' (bK σ c (eB w (fI (.ofNat a) b)))) (fun k a => onI y fun k' b => kkK k k' (bK σ c (eB w (fI (.negSucc a) b)))) (fun _ => .no) (fun a => onS y fun b => bK σ c (eB w (fU a b))) .no (fun _ _ => .no) .no (fun _ _ _ _ => .no) (fun _ _ _ _ _ => .no) (fun _ _ _ _ => .no) .no (fun a => onE y fun b => bK σ c (eB w (fI (.ofNat a) (.ofNat b)))) (fun _ _ => .no) (fun _ => .no) .no (fun _ _ => .no) (fun _ => .no) x) (fun _ => .no) (fun _ => .no) (fun _ _ => .no) x
noncomputable def cmW (fI : Int → Int → Bool) (fU : List Nat → List Nat → Bool) (w : Bool) (m : Nat) (x y : Operand) : Wh := ⟨fun _ e σ c => (gtW m x).f e fun x => (gtW m y).f e fun y => cmK fI fU w σ c x y⟩
noncomputable def ltW (w : Bool) (m : Nat) (x y : Operand) : Wh := cmW bI ltU w m x y
noncomputable def onQ (x : AV) (f0 : Rs) (f : Nat → Nat → Rs) : Rs := AV.rec (motive := fun _ => Rs) (fun x => SV.rec (motive := fun _ => Rs) (fun _ _ => .no) (fun _ _ => .no) (fun _ => .no) (fun _ => .no) f0 f .no (fun _ _ _ _ => .no) (fun _ _ _ _ _ => .no) (fun _ _ _ _ => .no) .no (fun _ => .no) (fun _ _ => .no) (fun _ => .no) .no (fun _ _ => .no) (fun _ => .no) x) (fun _ => .no) (fun _ => .no) (fun _ _ => .no) x
noncomputable def eqQ (w : Bool) (σ : Mem) (c : Kt) (x y : AV) : Rs := onQ x (onQ y (bK σ c w) fun _ _ => bK σ c (nt w)) fun _ _ => onQ y (bK σ c (nt w)) fun _ _ => .no
noncomputable def onJ (x : AV) (f : Rs) : Rs := AV.rec (motive := fun _ => Rs) (fun x => SV.rec (motive := fun _ => Rs) (fun _ _ => .no) (fun _ _ => .no) (fun _ => .no) (fun _ => .no) .no (fun _ _ => .no) .no (fun _ _ _ _ => .no) (fun _ _ _ _ _ => .no) (fun _ _ _ _ => .no) .no (fun _ => .no) (fun _ _ => .no) (fun _ => .no) f (fun _ _ => .no) (fun _ => .no) x) (fun _ => .no) (fun _ => .no) (fun _ _ => .no) x
noncomputable def eqJW (w : Bool) (m : Nat) (x y : Operand) : Wh := match y with
 | .const .nilIface => ⟨fun _ e σ c => (gtW m x).f e fun x => onJ x (bK σ c w)⟩
 | _ => noH
noncomputable def eqZ (w : Bool) (σ : Mem) (c : Kt) (x y : AV) : Rs := onL y (onL x (bK σ c w) (fun _ _ _ _ => bK σ c (nt w)) (fun _ _ _ _ _ => bK σ c (nt w)) .no (fun _ => .no) fun _ _ => .no) (fun _ _ _ _ => .no) (fun _ _ _ _ _ => .no) .no (fun _ => .no) fun _ _ => .no
noncomputable def eqC (w : Bool) (σ : Mem) (c : Kt) (x y : AV) : Rs := onB x (onB y (bK σ c w) (bK σ c (nt w))) (onB y (bK σ c (nt w)) (bK σ c w))
noncomputable def flat (fs : List Field) : Nat → Option (List Bool) := List.rec (motive := fun _ => Nat → Option (List Bool)) (fun _ => some []) (fun f _ ih k => match Nat.beq f.offset k && f.name != "_" && Tryz.prog.plainKey f.type, ih (Nat.add k 1) with
 | true, some r => match kindOf f.type, isS f.type with
  | some _, _ => some (false :: r)
  | none, true => some (true :: r)
  | none, false => none
 | _, _ => none) fs
noncomputable def peq (t : TypeId) : Option (List Bool) := match Tryz.prog.eqGuardType Tryz.prog.depth t with
 | true => none
 | false => match Tryz.prog.stoodInHeld t with
  | true => none
  | false => match Tryz.prog.underlying t with
   | some (.struct fs) => flat fs.toList 0
   | some (.array n e) => match (kindOf e).isSome && one e && Tryz.prog.plainKey e with
    | true => some (List.replicate n false)
    | false => none
   | _ => none
noncomputable def eqG (fl : List Bool) (w : Bool) (σ : Mem) (c : Kt) (x y : AV) : Rs := onG x fun x => onG y fun y => oB σ c w (eT fl x y)
noncomputable def eq2 (f : Mem → Kt → AV → AV → Rs) (m : Nat) (x y : Operand) : Wh := ⟨fun _ e σ c => (gtW m x).f e fun x => (gtW m y).f e fun y => f σ c x y⟩
noncomputable def eqW (w : Bool) (m : Nat) (t : TypeId) (x y : Operand) : Wh := match Tryz.prog.underlying t with
 | some .bool => eq2 (eqC w) m x y
 | some (.pointer _) => eq2 (eqQ w) m x y
 | some (.slice _) => eq2 (eqZ w) m x y
 | some (.interface _) => eqJW w m x y
 | some (.struct _) => match peq t with
  | some fl => eq2 (eqG fl w) m x y
  | none => noH
 | some (.array _ _) => match peq t with
  | some fl => eq2 (eqG fl w) m x y
  | none => noH
 | _ => cmW eI eU w m x y
noncomputable def arW (f : Nat → Nat → Nat) (g : Int → Int → Int) (m : Nat) (x y : Operand) : Wh := ⟨fun _ e σ c => (gtW m x).f e fun x => (gtW m y).f e fun y => iiK (fun k a b => fN (f a b) fun s => wrN σ c k s) (fun k a b => wrI σ c k (g a b)) x y⟩
noncomputable def suK (σ : Mem) (c : Kt) (k : IntKind) (a b : Nat) : Rs := ifK (Nat.ble b a) (fN (Nat.sub a b) fun s => c (.v (.n k s)) σ) (fN (Nat.sub (Nat.sub b a) 1) fun s => wrM σ c k s)
noncomputable def suW (m : Nat) (x y : Operand) : Wh := ⟨fun _ e σ c => (gtW m x).f e fun x => (gtW m y).f e fun y => iiK (suK σ c) (fun k a b => wrI σ c k (Int.sub a b)) x y⟩
noncomputable def dvW (f : Nat → Nat → Nat) (m : Nat) (x y : Operand) : Wh := ⟨fun _ e σ c => (gtW m x).f e fun x => (gtW m y).f e fun y => nkK (fun k a b => okK (Nat.ble 1 b) (fN (f a b) fun s => c (.v (.n k s)) σ)) x y⟩
noncomputable def btW (f : Nat → Nat → Nat) (m : Nat) (x y : Operand) : Wh := ⟨fun _ e σ c => (gtW m x).f e fun x => (gtW m y).f e fun y => nkK (fun k a b => fN (f a b) fun s => c (.v (.n k s)) σ) x y⟩
noncomputable def anN (a b : Nat) : Nat := Nat.xor a (Nat.land a b)
noncomputable def kb (k : IntKind) : Nat := IntKind.rec (motive := fun _ => Nat) 8 16 32 64 8 16 32 64 k
noncomputable def shW (m : Nat) (x y : Operand) : Wh := ⟨fun _ e σ c => (gtW m x).f e fun x => (gtW m y).f e fun y => nnK (fun k a b => okK (Nat.ble b (kb k)) (fN (Nat.shiftLeft a b) fun s => wrN σ c k s)) x y⟩
noncomputable def srW (m : Nat) (x y : Operand) : Wh := ⟨fun _ e σ c => (gtW m x).f e fun x => (gtW m y).f e fun y => nnK (fun k a b => okK (Nat.ble b (kb k)) (fN (Nat.shiftRight a b) fun s => c (.v (.n k s)) σ)) x y⟩
noncomputable def adK (σ : Mem) (c : Kt) (x y : AV) : Rs := AV.rec (motive := fun _ => Rs) (fun x => SV.rec (motive := fun _ => Rs) (fun k a => AV.rec (motive := fun _ => Rs) (fun y => SV.rec (motive := fun _ => Rs) (fun k' b => kkK k k' (fN (Nat.add a b) fun s => wrN σ c k s)) (fun k' b => kkK k k' (wrI σ c k (Int.add (.ofNat a) (.negSucc b)))) (fun _ => .no) (fun _ => .no) .no (fun _ _ => .no) .no (fun _ _ _ _ => .no) (fun _ _ _ _ _ => .no) (fun _ _ _ _ => .no) .no (fun _ => .no) (fun _ _ => .no) (fun _ => .no) .no (fun _ _ => .no) (fun _ => .no) y) (fun _ => .no) (fun _ => .no) (fun _ _ => .no) y) (fun k a => onI y fun k' b => kkK k k' (wrI σ c k (Int.add (.negSucc a) b))) (fun _ => .no) (fun a => onS y fun b => okK (Nat.ble (a ++ b).length maxLen) (fP (a ++ b) fun s => c (.v (.s s)) σ)) .no (fun _ _ => .no) .no (fun _ _ _ _ => .no) (fun _ _ _ _ _ => .no) (fun _ _ _ _ => .no) .no (fun _ => .no) (fun _ _ => .no) (fun _ => .no) .no (fun _ _ => .no) (fun _ => .no) x) (fun _ => .no) (fun _ => .no) (fun _ _ => .no) x
noncomputable def adW (m : Nat) (x y : Operand) : Wh := ⟨fun _ e σ c => (gtW m x).f e fun x => (gtW m y).f e fun y => adK σ c x y⟩
noncomputable def uns (k : IntKind) : Bool := IntKind.rec (motive := fun _ => Bool) false false false false true true true true k
noncomputable def newX (σ : Mem) (c : Kt) (k : IntKind) : Rs := okK (uns k) (addK σ ⟨0, 0, 0, .nil⟩ fun id σ => c (.v (.x k id)) σ)
noncomputable def xkO (x : AV) : Option IntKind := match x with
 | .v (.x k _) => some k
 | _ => none
noncomputable def nkO (x : AV) : Option IntKind := match x with
 | .v (.x k _) => some k
 | .v (.n k _) => some k
 | _ => none
noncomputable def xuK (σ : Mem) (c : Kt) (old : Rs) (a b : AV) : Rs := match xkO a with
 | some k => match nkO b with
  | some k' => kkK k k' (newX σ c k)
  | none => .no
 | none => match xkO b with
  | some k => match nkO a with
   | some k' => kkK k k' (newX σ c k)
   | none => .no
  | none => old
noncomputable def xuW (m : Nat) (x y : Operand) (w : Wh) : Wh := ⟨fun ih e σ c => (gtW m x).f e fun a => (gtW m y).f e fun b => xuK σ c (w.f ih e σ c) a b⟩
noncomputable def xrK (σ : Mem) (c : Kt) (old : Rs) (a b : AV) : Rs := match xkO a with
 | some k => onN b fun k' n => kkK k k' (okK (Nat.ble 1 n) (newX σ c k))
 | none => old
noncomputable def xrW (m : Nat) (x y : Operand) (w : Wh) : Wh := ⟨fun ih e σ c => (gtW m x).f e fun a => (gtW m y).f e fun b => xrK σ c (w.f ih e σ c) a b⟩
noncomputable def xsK (σ : Mem) (c : Kt) (old : Rs) (a b : AV) : Rs := match xkO a with
 | some k => onN b fun _ n => okK (Nat.ble n (kb k)) (newX σ c k)
 | none => old
noncomputable def xsW (m : Nat) (x y : Operand) (w : Wh) : Wh := ⟨fun ih e σ c => (gtW m x).f e fun a => (gtW m y).f e fun b => xsK σ c (w.f ih e σ c) a b⟩
noncomputable def slO (x : AV) : Option (List Nat) := match x with
 | .v (.sl l) => some l
 | _ => none
noncomputable def slS (x : AV) : Option (List Nat) := match x with
 | .v (.sl l) => some l
 | .v (.s l) => some l
 | _ => none
noncomputable def slK (σ : Mem) (c : Kt) (a b : AV) : Rs := match slS a, slS b with
 | some l, some r => okK (Nat.ble (l ++ r).length maxLen) (fP (l ++ r) fun l => c (.v (.sl l)) σ)
 | _, _ => .no
noncomputable def laK (σ : Mem) (c : Kt) (old : Rs) (a b : AV) : Rs := match slO a, slO b with
 | none, none => old
 | _, _ => slK σ c a b
noncomputable def laW (m : Nat) (x y : Operand) (w : Wh) : Wh := ⟨fun ih e σ c => (gtW m x).f e fun a => (gtW m y).f e fun b => laK σ c (w.f ih e σ c) a b⟩
noncomputable def byX (σ : Mem) (c : Kt) (q : Nat) : Rs := ifK (Nat.ble 256 q) (fN (Nat.sub q 256) fun id => c (.v (.x .u8 id)) σ) (c (.v (.n .u8 q)) σ)
noncomputable def biW (m : Nat) (t : TypeId) (op : BinOp) (x y : Operand) : Wh := match op with
 | .add => xuW m x y (laW m x y (adW m x y))
 | .sub => suW m x y
 | .mul => xuW m x y (arW Nat.mul Int.mul m x y)
 | .quo => dvW Nat.div m x y
 | .rem => xrW m x y (dvW Nat.mod m x y)
 | .and => btW Nat.land m x y
 | .or => xuW m x y (btW Nat.lor m x y)
 | .xor => xuW m x y (btW Nat.xor m x y)
 | .andNot => btW anN m x y
 | .shl => xsW m x y (shW m x y)
 | .shr => xsW m x y (srW m x y)
 | .eql => eqW true m t x y
 | .neq => eqW false m t x y
 | .lss => ltW true m x y
 | .geq => ltW false m x y
 | .gtr => ltW true m y x
 | .leq => ltW false m y x
noncomputable def pkW (m : Nat) (x a b : Operand) : Wh := ⟨fun _ e σ c => (gtW m x).f e fun x => (gtW m a).f e fun a => (gtW m b).f e fun b => onB x (c a σ) (c b σ)⟩
noncomputable def fdW (m : Nat) (x : Operand) (off : Option Nat) : Wh := match off with
 | some off => cN off fun off => ⟨fun _ e σ c => (gtW m x).f e fun x => onP x fun id o => fN (Nat.add o off) fun o => c (.v (.p id o)) σ⟩
 | none => noH
noncomputable def ixS (σ : Mem) (c : Kt) (z' id z j n i : Nat) : Rs := okK (Nat.ble (Nat.add i 1) n) (fN (Nat.add (Nat.mul j z) (Nat.mul i z')) fun o => c (.v (.p id o)) σ)
noncomputable def ixW (m : Nat) (t : TypeId) (x i : Operand) : Wh := match arr t with
 | some (n, z) => cN z fun z => cN n fun n => ⟨fun _ e σ c => (gtW m x).f e fun x => (gtW m i).f e fun i => onP x fun id o => onN i fun _ i => okK (Nat.ble (Nat.add i 1) n) (fN (Nat.add o (Nat.mul i z)) fun o => c (.v (.p id o)) σ)⟩
 | none => match es t with
  | some z' => cN z' fun z' => ⟨fun _ e σ c => (gtW m x).f e fun x => (gtW m i).f e fun i => onN i fun _ i => onL x .no (fun id z j n => ixS σ c z' id z j n i) (fun id z j n _ => ixS σ c z' id z j n i) .no (fun _ => .no) fun _ _ => .no⟩
  | none => noH
noncomputable def unW (m : Nat) (op : UnOp) (x : Operand) : Wh := match op with
 | .not => ⟨fun _ e σ c => (gtW m x).f e fun x => onB x (c (.v (.b false)) σ) (c (.v (.b true)) σ)⟩
 | .neg => ⟨fun _ e σ c => (gtW m x).f e fun x => onI x fun k n => wrI σ c k (Int.neg n)⟩
 | _ => noH
noncomputable def nthK {α : Type} (l : List α) (i : Nat) (c : α → Rs) : Rs := List.rec (motive := fun _ => Nat → Rs) (fun _ => .no) (fun x _ ih i => Nat.rec (motive := fun _ => Rs) (c x) (fun i _ => ih i) i) l i
noncomputable def exW (m : Nat) (x : Operand) (k : Nat) : Wh := ⟨fun _ e σ c => (gtW m x).f e fun x => onT x fun l => nthK l k fun x => TV.rec (motive := fun _ => Rs) (fun x => c (.v x) σ) (fun l => c (.g l) σ) x⟩
noncomputable def sub (l : List SV) (o n : Nat) : List SV := (l.drop o).take n
noncomputable def flW (m : Nat) (x : Operand) (f : Option (Nat × TypeId)) : Wh := match f with
 | some (o, u) => match one u with
  | true => cN o fun o => ⟨fun _ e σ c => (gtW m x).f e fun x => onG x fun l => nthK l o fun x => c (.v x) σ⟩
  | false => match get l_agg u with
   | some n => cN o fun o => cN n fun n => ⟨fun _ e σ c => (gtW m x).f e fun x => onG x fun l => okK (Nat.ble (Nat.add o n) l.length) (fP (sub l o n) fun l => c (.g l) σ)⟩
   | none => noH
 | none => noH
noncomputable def elW (m : Nat) (t : TypeId) (x i : Operand) : Wh := match Tryz.prog.underlying t with
 | some (.array n el) => match one el with
  | true => cN n fun n => ⟨fun _ e σ c => (gtW m x).f e fun x => (gtW m i).f e fun i => onG x fun l => onN i fun _ i => okK (Nat.ble (Nat.add i 1) n) (nthK l i fun x => c (.v x) σ)⟩
  | false => match get l_agg el with
   | some z => cN n fun n => cN z fun z => ⟨fun _ e σ c => (gtW m x).f e fun x => (gtW m i).f e fun i => onG x fun l => onN i fun _ i => okK (Nat.ble (Nat.add i 1) n) (okK (Nat.ble (Nat.mul n z) l.length) (fP (sub l (Nat.mul i z) z) fun l => c (.g l) σ))⟩
   | none => noH
 | some .string => match isS t with
  | true => ⟨fun _ e σ c => (gtW m x).f e fun x => (gtW m i).f e fun i => match slO x with
   | some l => onN i fun _ i => nthK l i fun q => byX σ c q
   | none => onS x fun l => onN i fun _ i => nthK l i fun x => c (.v (.n .u8 x)) σ⟩
  | false => noH
 | _ => noH
noncomputable def put (l : List SV) (o : Nat) (c : List SV) : List SV := l.take o ++ (c ++ l.drop (o + c.length))
noncomputable def ptW (m : Nat) (off : Nat → Option (Nat × Nat)) (ps : List (Nat × Operand)) : Wps := List.rec (motive := fun _ => Wps) ⟨fun _ l k => k l⟩ (fun p _ r => match off p.1 with
 | some (o, z) => ⟨fun e l k => (gtW m p.2).f e fun v => onV v (fun x => nuK x (okK (Nat.beq z 1) (okK (Nat.ble (Nat.add o 1) l.length) (fP (put l o [x]) fun l => r.f e l k)))) fun g => okK (Nat.beq g.length z) (okK (Nat.ble (Nat.add o z) l.length) (fP (put l o g) fun l => r.f e l k))⟩
 | none => ⟨fun _ _ _ => .no⟩) ps
noncomputable def bdW (m : Nat) (off : Nat → Option (Nat × Nat)) (ps : List (Nat × Operand)) (z : Option (List SV)) : Wh := match z with
 | some z => cVs z fun z => ⟨fun _ e σ c => (ptW m off ps).f e z fun l => c (.g l) σ⟩
 | none => noH
noncomputable def offA (z : Nat) (i : Nat) : Option (Nat × Nat) := some (Nat.mul i z, z)
noncomputable def offS (t : TypeId) (i : Nat) : Option (Nat × Nat) := match fieldOf t i with
 | some (o, u) => match size u with
  | some z => some (o, z)
  | none => none
 | none => none
noncomputable def buW (m : Nat) (t : TypeId) (ps : List (Nat × Operand)) : Wh := match arr t with
 | some (_, s) => bdW m (offA s) ps (zA t)
 | none => match Tryz.prog.underlying t with
  | some (.struct _) => match Tryz.prog.built t [] with
   | some _ => bdW m (offS t) ps (zA t)
   | none => noH
  | _ => noH
noncomputable def scK (l : List AV) (k : List SV → Rs) : Rs := List.rec (motive := fun _ => (List SV → Rs) → Rs) (fun k => k []) (fun x _ ih k => onV x (fun x => nuK x (ih fun l => k (x :: l))) fun _ => .no) l k
noncomputable def mfW (m : Nat) (fn : Fn) (a b : List Operand) : Wh := match fn with
 | .func f => match a with
  | [] => ⟨fun _ e σ c => (gtsW m b).f e fun y => scK y fun l => c (.f f l) σ⟩
  | _ => noH
 | _ => noH
structure Wb where
 f : En → Nat → (Nat → Rs) → Rs
noncomputable def bnW (m : Nat) (x : Option Operand) : Wb := match x with
 | none => ⟨fun _ d k => k d⟩
 | some x => ⟨fun e _ k => (gtW m x).f e fun v => onN v fun _ n => k n⟩
noncomputable def cutS (σ : Mem) (c : Kt) (l : List Nat) (a b : Nat) : Rs := okK (Nat.ble a b) (okK (Nat.ble b l.length) (fP ((l.drop a).take (Nat.sub b a)) fun l => c (.v (.s l)) σ))
noncomputable def cutL (σ : Mem) (c : Kt) (id z j n a b : Nat) : Rs := okK (Nat.ble a b) (ifK (Nat.ble b n) (ifK (Nat.ble (Nat.add a 1) n) (fN (Nat.add j a) fun i => fN (Nat.sub b a) fun r => c (.v (.l id z i r)) σ) (ifK (Nat.beq a 0) (c (.v (.l id z j 0)) σ) (c (.v (.le id z j a)) σ))) (okK (Nat.ble (Nat.add a 1) b) (okK (Nat.ble 1 z) (rdK σ id (Nat.sub (Nat.mul (Nat.add j b) z) 1) 1 fun _ => fN (Nat.add j a) fun i => fN (Nat.sub b a) fun r => c (.v (.l id z i r)) σ))))
noncomputable def cutX (σ : Mem) (c : Kt) (id z j m a b : Nat) : Rs := okK (Nat.ble a b) (okK (Nat.ble b m) (ifK (Nat.ble (Nat.add a 1) m) (fN (Nat.add j a) fun i => fN (Nat.sub b a) fun r => fN (Nat.sub m a) fun q => c (.v (.lx id z i r q)) σ) (c (.v (.lx id z j 0 0)) σ)))
noncomputable def cut0 (σ : Mem) (c : Kt) (a b : Nat) : Rs := okK (Nat.beq a 0) (okK (Nat.beq b 0) (c (.v .l0) σ))
noncomputable def zzK (z z' : Nat) (r : Rs) : Rs := okK (Nat.beq z z') r
noncomputable def slW (m : Nat) (t : TypeId) (x : Operand) (lo hi mx : Option Operand) : Wh := match isS t with
 | true => match mx with
  | none => ⟨fun _ e σ c => (gtW m x).f e fun x => (bnW m lo).f e 0 fun a => onS x fun l => fN l.length fun n => (bnW m hi).f e n fun b => cutS σ c l a b⟩
  | some _ => noH
 | false => match es t with
  | some z' => cN z' fun z' => match mx with
   | none => ⟨fun _ e σ c => (gtW m x).f e fun x => (bnW m lo).f e 0 fun a => onL x ((bnW m hi).f e 0 fun b => cut0 σ c a b) (fun id z j n => zzK z z' ((bnW m hi).f e n fun b => cutL σ c id z j n a b)) (fun id z j n q => zzK z z' ((bnW m hi).f e n fun b => cutX σ c id z j q a b)) .no (fun _ => .no) fun _ _ => .no⟩
   | some mx => match hi with
    | some hi => ⟨fun _ e σ c => (gtW m x).f e fun x => (bnW m lo).f e 0 fun a => (bnW m (some hi)).f e 0 fun b => (bnW m (some mx)).f e 0 fun q => onL x .no (fun id z j n => zzK z z' (okK (Nat.ble q n) (cutX σ c id z j q a b))) (fun id z j _ q0 => zzK z z' (okK (Nat.ble q q0) (cutX σ c id z j q a b))) .no (fun _ => .no) fun _ _ => .no⟩
    | none => noH
  | none => match arr t, mx with
   | some (n, 1), none => cN n fun n => ⟨fun _ e σ c => (gtW m x).f e fun x => (bnW m lo).f e 0 fun a => (bnW m hi).f e n fun b => onP x fun id o => okK (Nat.ble n maxLen) (cutX σ c id 1 o n a b)⟩
   | _, _ => noH
noncomputable def lnK (σ : Mem) (c : Kt) (n : Nat) : Rs := okK (Nat.ble n 9223372036854775807) (c (.v (.n .i64 n)) σ)
noncomputable def i64K (σ : Mem) (c : Kt) (n : Nat) : Rs := fN n fun n => lnK σ c n
noncomputable def lnW (m : Nat) (t : TypeId) (x : Operand) : Wh := match isS t with
 | true => ⟨fun _ e σ c => (gtW m x).f e fun x => match slO x with
  | some l => i64K σ c l.length
  | none => onS x fun l => i64K σ c l.length⟩
 | false => match es t with
  | some _ => ⟨fun _ e σ c => (gtW m x).f e fun x => onL x (c (.v (.n .i64 0)) σ) (fun _ _ _ n => lnK σ c n) (fun _ _ _ n _ => lnK σ c n) (c (.v (.n .i64 0)) σ) (fun _ => .no) fun _ _ => .no⟩
  | none => noH
noncomputable def mnW (up : Bool) (m : Nat) (x y : Operand) : Wh := ⟨fun _ e σ c => (gtW m x).f e fun x => (gtW m y).f e fun y => onI x fun k a => onI y fun k' b => kkK k k' (ifK (eB up (bI a b)) (c y σ) (c x σ))⟩
noncomputable def srK (σ : Mem) (z : Nat) (x : AV) (k : Nat → List SV → Rs) : Rs := onL x (k 0 []) (fun id z' j n => rdK σ id (Nat.mul j z') (Nat.mul n z) fun l => k n l) (fun id z' j n _ => rdK σ id (Nat.mul j z') (Nat.mul n z) fun l => k n l) (k 0 []) (fun _ => .no) fun _ _ => .no
noncomputable def stK (x : AV) (k : Nat → List SV → Rs) : Rs := onS x fun s => fN s.length fun n => fP (s.map fun c => .n .u8 c) fun l => k n l
noncomputable def ldW (m : Nat) (t : TypeId) (x : Operand) : Wh := match one t with
 | true => ⟨fun _ e σ c => (gtW m x).f e fun p => onP p fun id o => obK σ id fun ob => getK ob.d o ob.m fun x => c (.v x) σ⟩
 | false => match get l_agg t with
  | some n => cN n fun n => ⟨fun _ e σ c => (gtW m x).f e fun p => onP p fun id o => rdK σ id o n fun l => c (.g l) σ⟩
  | none => noH
noncomputable def ob1 (σ : Mem) (c : Kt) (id o : Nat) (x : SV) : Rs := obK σ id fun ob => updK ob.d o x ob.m fun m => updK dI id ⟨ob.e, ob.d, ob.n, m⟩ σ.h fun h => c (.v .u) ⟨σ.n, h, σ.mp⟩
noncomputable def stW (m : Nat) (t : TypeId) (x y : Operand) : Wh := match one t with
 | true => ⟨fun _ e σ c => (gtW m x).f e fun p => (gtW m y).f e fun v => onP p fun id o => onV v (fun x => nuK x (ob1 σ c id o x)) fun _ => .no⟩
 | false => match get l_agg t with
  | some n => cN n fun n => ⟨fun _ e σ c => (gtW m x).f e fun p => (gtW m y).f e fun v => onP p fun id o => onG v fun l => okK (Nat.beq l.length n) (okK (Nat.ble 1 n) (wrK σ id o l fun σ => c (.v .u) σ))⟩
  | none => noH
noncomputable def alW (t : TypeId) (z : Option (List SV)) : Wh := match z with
 | some z => cVs z fun z => ⟨fun _ _ σ c => newK σ t z fun id σ => c (.v (.p id 0)) σ⟩
 | none => noH
noncomputable def bxW (m : Nat) (t : TypeId) (x : Operand) : Wh := ⟨fun _ e σ c => (gtW m x).f e fun v => onV v (fun x => nuK x (newK σ t [x] fun id σ => c (.v (.p id 0)) σ)) fun l => newK σ t l fun id σ => c (.v (.p id 0)) σ⟩
noncomputable def an (a b : Bool) : Bool := Bool.rec (motive := fun _ => Bool) false b a
noncomputable def rep (l : List SV) (n : Nat) : List SV := Nat.rec (motive := fun _ => List SV) [] (fun _ ih => l ++ ih) n
noncomputable def rw0 (x : Option (TypeId × Nat)) : Wh := match x with
 | some (el, z) => cN z fun z => ⟨fun _ _ σ c => newK σ el [] fun id σ => c (.v (.lx id z 0 0 0)) σ⟩
 | none => noH
noncomputable def rwW (m : Nat) (n : Nat) (ps : List (Nat × Operand)) (x : Option (TypeId × Nat)) : Wh := match n, ps with
 | 0, [] => rw0 x
 | n, ps => match x with
  | some (el, z) => match zA el with
   | some zs => match an (Nat.beq zs.length z) (an (Nat.ble 1 n) (an (Nat.ble 1 z) (Nat.ble (Nat.mul n z) 16777216))) with
    | false => noH
    | true => cN z fun z => cN n fun n => cVs (rep zs n) fun l => ⟨fun _ e σ c => (ptW m (offA z) ps).f e l fun l => newK σ el l fun id σ => c (.v (.lx id z 0 n n)) σ⟩
   | none => noH
  | none => noH
noncomputable def few (t : TypeId) : Bool := match Tryz.prog.info? t with
 | some i => Nat.ble i.bytes 1000000
 | none => false
noncomputable def mkK (σ : Mem) (c : Kt) (el z : Nat) (zs : List SV) (a b : AV) : Rs := onN a fun _ n => onN b fun _ q => okK (Nat.ble n q) (okK (Nat.ble q 65536) (fP (rep zs q) fun l => newK σ el l fun id σ => c (.v (.lx id z 0 n q)) σ))
noncomputable def mkW (m : Nat) (n q : Operand) (x : Option (TypeId × Nat)) : Wh := match x with
 | some (el, z) => match few el, zA el with
  | true, some zs => match Nat.beq zs.length z with
   | false => noH
   | true => cN z fun z => cVs zs fun zs => ⟨fun _ e σ c => (gtW m n).f e fun a => (gtW m q).f e fun b => mkK σ c el z zs a b⟩
  | _, _ => noH
 | none => noH
noncomputable def byK (l : List SV) (k : List Nat → Rs) : Rs := List.rec (motive := fun _ => (List Nat → Rs) → Rs) (fun k => k []) (fun x _ ih k => onN (.v x) fun q a => kkK q .u8 (ih fun r => k (a :: r))) l k
noncomputable def cvI (m : Nat) (k : IntKind) (x : Operand) : Wh := ⟨fun _ e σ c => (gtW m x).f e fun v => onI v fun _ a => wrI σ c k a⟩
noncomputable def cvW (m : Nat) (s d : TypeId) (x : Operand) : Wh := match kindOf d with
 | some k => match kindOf s with
  | some _ => cvI m k x
  | none => match k, Tryz.prog.underlying s with
   | .i64, some (.float .f64) => ⟨fun _ e σ c => (gtW m x).f e fun v => onE v fun a => c (.v (.n .i64 a)) σ⟩
   | _, _ => noH
 | none => match isS d with
  | true => match isS s with
   | true => ⟨fun _ e σ c => (gtW m x).f e fun v => onS v fun _ => c v σ⟩
   | false => match elemOf s with
    | some (el, 1) => match kindOf el with
     | some .u8 => ⟨fun _ e σ c => (gtW m x).f e fun v => srK σ 1 v fun _ l => byK l fun l => okK (Nat.ble l.length maxLen) (c (.v (.s l)) σ)⟩
     | _ => noH
    | _ => noH
  | false => match elemOf d with
   | some (el, 1) => match kindOf el with
    | some .u8 => match isS s with
     | true => ⟨fun _ e σ c => (gtW m x).f e fun v => onS v fun l => fN l.length fun n => okK (Nat.ble 1 n) (fP (l.map fun c => .n .u8 c) fun r => newK σ el r fun id σ => c (.v (.l id 1 0 n)) σ)⟩
     | false => match Nat.beq s d with
      | true => ⟨fun _ e σ c => (gtW m x).f e fun v => onL v .no (fun id _ _ _ => obK σ id fun ob => getK ob.d 0 ob.m fun _ => c v σ) (fun id _ _ _ _ => obK σ id fun ob => getK ob.d 0 ob.m fun _ => c v σ) .no (fun _ => .no) fun _ _ => .no⟩
      | false => noH
    | _ => noH
   | _ => match Tryz.prog.underlying d, kindOf s with
    | some (.float .f64), some _ => ⟨fun _ e σ c => (gtW m x).f e fun v => onN v fun _ a => okK (Nat.ble a 1099511627776) (c (.v (.fl a)) σ)⟩
    | _, _ => noH
noncomputable def apF (σ : Mem) (c : Kt) (z id n q : Nat) (ob : Ob) (new : List SV) : Rs := fillT ob.d ob.n new ob.m fun t => fN (Nat.add ob.n new.length) fun k => killK σ id fun σ => addK σ ⟨ob.e, ob.d, k, t⟩ fun id σ => fN (Nat.add n q) fun n => c (.v (.l id z 0 n)) σ
noncomputable def apS (σ : Mem) (c : Kt) (el z id n q : Nat) (ob : Ob) (new : List SV) : Rs := rdT ob.d ob.m 0 (Nat.mul n z) fun old => fP (old ++ new) fun l => killK σ id fun σ => newK σ el l fun id σ => fN (Nat.add n q) fun n => c (.v (.l id z 0 n)) σ
noncomputable def apL (σ : Mem) (c : Kt) (el z id n q : Nat) (new : List SV) : Rs := obK σ id fun ob => okK (Nat.beq ob.e el) (getK ob.d 0 ob.m fun _ => ifK (an (Nat.beq ob.n (Nat.mul n z)) (Nat.ble (Nat.add ob.n new.length) (Nat.shiftLeft 1 ob.d))) (apF σ c z id n q ob new) (apS σ c el z id n q ob new))
noncomputable def apX (σ : Mem) (c : Kt) (el z id j n k q : Nat) (new : List SV) : Rs := ifK (Nat.ble (Nat.add n q) k) (fN (Nat.mul (Nat.add j n) z) fun o => wrK σ id o new fun σ => fN (Nat.add n q) fun n => c (.v (.lx id z j n k)) σ) (rdK σ id (Nat.mul j z) (Nat.mul n z) fun old => fP (old ++ new) fun l => newK σ el l fun id σ => fN (Nat.add n q) fun n => c (.v (.l id z 0 n)) σ)
noncomputable def apK (σ : Mem) (c : Kt) (el z : Nat) (s : AV) (q : Nat) (new : List SV) : Rs := onL s (Nat.rec (motive := fun _ => Rs) (c (.v .l0) σ) (fun _ _ => okK (Nat.ble q 1000000) (newK σ el new fun id σ => c (.v (.l id z 0 q)) σ)) q) (fun id z' j n => okK (Nat.beq j 0) (zzK z' z (okK (Nat.ble (Nat.add n q) 1000000) (Nat.rec (motive := fun _ => Rs) (c s σ) (fun _ _ => apL σ c el z id n q new) q)))) (fun id z' j n k => zzK z' z (okK (Nat.ble (Nat.add n q) 1000000) (Nat.rec (motive := fun _ => Rs) (c s σ) (fun _ _ => apX σ c el z id j n k q new) q))) .no (fun _ => .no) fun _ _ => .no
structure Ws where
 f : Mem → AV → (Nat → List SV → Rs) → Rs
noncomputable def scW (el z : Nat) (t u : TypeId) : Option Ws := match isS u with
 | true => match Nat.beq z 1, kindOf el with
  | true, some .u8 => some ⟨fun _ => stK⟩
  | _, _ => none
 | false => match Nat.beq t u with
  | true => some ⟨fun σ => srK σ z⟩
  | false => none
noncomputable def apW (m : Nat) (t u : TypeId) (x y : Operand) : Wh := match elemOf t with
 | some (el, z) => match few el, zA el with
  | true, some zs => match Nat.beq zs.length z, Nat.ble 1 z, scW el z t u with
   | true, true, some r => cN z fun z => ⟨fun _ e σ c => (gtW m x).f e fun s => (gtW m y).f e fun y => r.f σ y fun q new => apK σ c el z s q new⟩
   | _, _, _ => noH
  | _, _ => noH
 | none => noH
noncomputable def cpT (σ : Mem) (c : Kt) (z id z' j n q : Nat) (new : List SV) : Rs := zzK z' z (fN (Nat.min q n) fun r => Nat.rec (motive := fun _ => Rs) (c (.v (.n .i64 0)) σ) (fun _ _ => fP (new.take (Nat.mul r z)) fun l => fN (Nat.mul j z) fun o => wrK σ id o l fun σ => lnK σ c r) r)
noncomputable def cpK (σ : Mem) (c : Kt) (z : Nat) (s : AV) (q : Nat) (new : List SV) : Rs := onL s (c (.v (.n .i64 0)) σ) (fun id z' j n => cpT σ c z id z' j n q new) (fun id z' j n _ => cpT σ c z id z' j n q new) (c (.v (.n .i64 0)) σ) (fun _ => .no) fun _ _ => .no
noncomputable def cpW (m : Nat) (t u : TypeId) (x y : Operand) : Wh := match elemOf t with
 | some (el, z) => match Nat.ble 1 z, scW el z t u with
  | true, some r => cN z fun z => ⟨fun _ e σ c => (gtW m x).f e fun s => (gtW m y).f e fun y => r.f σ y fun q new => cpK σ c z s q new⟩
  | _, _ => noH
 | none => noH
noncomputable def clT (σ : Mem) (c : Kt) (z : Nat) (zs : List SV) (id z' j n : Nat) : Rs := zzK z' z (Nat.rec (motive := fun _ => Rs) (c (.t []) σ) (fun _ _ => fP (rep zs n) fun l => fN (Nat.mul j z) fun o => wrK σ id o l fun σ => c (.t []) σ) n)
noncomputable def clW (m : Nat) (t : TypeId) (x : Operand) : Wh := match elemOf t with
 | some (el, z) => match zA el with
  | some zs => match Nat.beq zs.length z, Nat.ble 1 z with
   | true, true => cN z fun z => cVs zs fun zs => ⟨fun _ e σ c => (gtW m x).f e fun x => onL x (c (.t []) σ) (fun id z' j n => clT σ c z zs id z' j n) (fun id z' j n _ => clT σ c z zs id z' j n) (c (.t []) σ) (fun _ => .no) fun _ _ => .no⟩
   | _, _ => noH
  | none => noH
 | none => noH
noncomputable def bfW (m : Nat) (b : Builtin) (a : List Operand) (ts : List TypeId) : Wh := match b, a, ts with
 | .len, [x], [t] => lnW m t x
 | .append, [x, y], [t, u] => apW m t u x y
 | .copy, [x, y], [t, u] => cpW m t u x y
 | .clear, [x], [t] => clW m t x
 | .complex, [x, y], [_, _] => ⟨fun _ e σ c => (gtW m x).f e fun x => (gtW m y).f e fun y => onE x fun a => onE y fun b => c (.v (.cx a b)) σ⟩
 | .real, [x], [_] => ⟨fun _ e σ c => (gtW m x).f e fun x => onX x fun a _ => c (.v (.fl a)) σ⟩
 | .imag, [x], [_] => ⟨fun _ e σ c => (gtW m x).f e fun x => onX x fun _ b => c (.v (.fl b)) σ⟩
 | .min, [x, y], [_, _] => mnW false m x y
 | .max, [x, y], [_, _] => mnW true m x y
 | _, _, _ => noH
noncomputable def rvK (c : Kt) (r : Rs) : Rs := Rs.rec (motive := fun _ => Rs) .no (fun x _ σ => Ex.rec (motive := fun _ => Rs) .no (fun _ => .no) (fun _ => .no) .no (fun v => c v σ) x) r
noncomputable def n_ad64 : Option Nat := some 232
noncomputable def adR (σ : Mem) (c : Kt) (x y z : AV) : Rs := onN x fun k a => kkK k .u64 (onN y fun k b => kkK k .u64 (onN z fun k q => kkK k .u64 (okK (Nat.ble q 1) (fN (Nat.add (Nat.add a b) q) fun s => fN (Nat.mod s 18446744073709551616) fun lo => fN (Nat.div s 18446744073709551616) fun hi => c (.t [.v (.n .u64 lo), .v (.n .u64 hi)]) σ))))
noncomputable def ad3 (σ : Mem) (c : Kt) (l : List AV) : Rs := List.rec (motive := fun _ => Rs) .no (fun x l _ => List.rec (motive := fun _ => Rs) .no (fun y l _ => List.rec (motive := fun _ => Rs) .no (fun z l _ => List.rec (motive := fun _ => Rs) (adR σ c x y z) (fun _ _ _ => .no) l) l) l) l
noncomputable def caW (m : Nat) (k : Callee) (a : List Operand) (ts : List TypeId) : Wh := match k with
 | .value (.func f) => match bit m_cal f with
  | true => ⟨fun ih e σ c => (gtsW m a).f e fun vs => rvK c (ih f vs σ)⟩
  | false => match n_ad64 with
   | some q => match Nat.beq q f with
    | true => ⟨fun _ e σ c => (gtsW m a).f e fun vs => ad3 σ c vs⟩
    | false => noH
   | none => noH
 | .value (.tmp t) => ⟨fun ih e σ c => (gtT m t).f e fun v => (gtsW m a).f e fun vs => onF v fun g caps => okK (bit m_cal g) (fP (vs ++ caps.map AV.v) fun vs => rvK c (ih g vs σ))⟩
 | .builtin b => bfW m b a ts
 | _ => noH
noncomputable def onM (x : AV) (f : Nat → Rs) : Rs := AV.rec (motive := fun _ => Rs) (fun x => SV.rec (motive := fun _ => Rs) (fun _ _ => .no) (fun _ _ => .no) (fun _ => .no) (fun _ => .no) .no (fun _ _ => .no) .no (fun _ _ _ _ => .no) (fun _ _ _ _ _ => .no) (fun _ _ _ _ => .no) .no (fun _ => .no) (fun _ _ => .no) f .no (fun _ _ => .no) (fun _ => .no) x) (fun _ => .no) (fun _ => .no) (fun _ _ => .no) x
noncomputable def asL {α : Type} (k : Nat) (l : List (Nat × α)) : Option α := List.rec (motive := fun _ => Option α) none (fun p _ ih => Bool.rec (motive := fun _ => Option α) ih (some p.2) (Nat.beq p.1 k)) l
noncomputable def asK {α : Type} (x : Option α) (f : α → Rs) : Rs := match x with
 | some a => f a
 | none => .no
noncomputable def zeB (v : Option Value) : Bool := match v with
 | some (.int .i64 (.ofNat n)) => Nat.beq n 0
 | _ => false
noncomputable def mpT (t : TypeId) : Bool := match Tryz.prog.underlying t with
 | some (.map kt et) => match kindOf kt with
  | some .i64 => zeB ((Tryz.prog.info? et).bind (·.zero))
  | _ => false
 | _ => false
noncomputable def mpS (t : TypeId) : Bool := match Tryz.prog.underlying t with
 | some (.map kt et) => match Tryz.prog.underlying kt with
  | some .string => zeB ((Tryz.prog.info? et).bind (·.zero))
  | _ => false
 | _ => false
noncomputable def mkM (t : TypeId) : Wh := match mpT t || mpS t with
 | true => ⟨fun _ _ σ c => fN (Nat.add σ.n 1) fun n => c (.v (.mp σ.n)) ⟨n, σ.h, (σ.n, []) :: σ.mp⟩⟩
 | false => noH
noncomputable def lkK (σ : Mem) (c : Kt) (a : Nat) (l : List (Nat × Nat)) : Rs := match asL a l with
 | some v => okK (Nat.ble v 9223372036854775807) (c (.t [.v (.n .i64 v), .v (.b true)]) σ)
 | none => c (.t [.v (.n .i64 0), .v (.b false)]) σ
noncomputable def lkW (m : Nat) (t : TypeId) (x y : Operand) : Wh := match mpT t with
 | true => ⟨fun _ e σ c => (gtW m x).f e fun x => (gtW m y).f e fun y => onM x fun id => onN y fun k a => kkK k .i64 (asK (asL id σ.mp) fun l => lkK σ c a l)⟩
 | false => noH
noncomputable def nilK (l : List (Nat × Nat)) (r : Rs) : Rs := List.rec (motive := fun _ => Rs) r (fun _ _ _ => .no) l
noncomputable def leW (m : Nat) (t : TypeId) (x y : Operand) : Wh := match mpS t with
 | true => ⟨fun _ e σ c => (gtW m x).f e fun x => (gtW m y).f e fun y => onM x fun id => onS y fun _ => asK (asL id σ.mp) fun l => nilK l (c (.v (.n .i64 0)) σ)⟩
 | false => noH
noncomputable def muK (σ : Mem) (c : Kt) (id a b : Nat) (l : List (Nat × Nat)) : Rs := match asL a l with
 | some _ => .no
 | none => fP (l ++ [(a, b)]) fun l => c (.v .u) ⟨σ.n, σ.h, (id, l) :: σ.mp⟩
noncomputable def muW (m : Nat) (t : TypeId) (x y z : Operand) : Wh := match mpT t with
 | true => ⟨fun _ e σ c => (gtW m x).f e fun x => (gtW m y).f e fun y => (gtW m z).f e fun z => onM x fun id => onN y fun k a => kkK k .i64 (onN z fun k b => kkK k .i64 (asK (asL id σ.mp) fun l => muK σ c id a b l))⟩
 | false => noH
noncomputable def mvW (m : Nat) (x : Operand) : Wh := ⟨fun _ e σ c => (gtW m x).f e fun v => c v σ⟩
noncomputable def opW (m : Nat) (op : Op) : Wh := match op with
 | .move x => mvW m x
 | .assign x => mvW m x
 | .pick x a b => pkW m x a b
 | .nilCheck x => ⟨fun _ e σ c => (gtW m x).f e fun v => onP v fun id o => c (.v (.p id o)) σ⟩
 | .fieldAddr s x f => match Nat.blt f 100 with
  | true => fdW m x (fo s f)
  | false => noH
 | .indexAddr t x i => ixW m t x i
 | .binOp op t x y _ => biW m t op x y
 | .unOp op _ x => unW m op x
 | .extract x k => exW m x k
 | .field t x k => flW m x (fieldOf t k)
 | .index t x i => elW m t x i
 | .build t ps => buW m t ps.toList
 | .makeFunc fn a b => mfW m fn a.toList b.toList
 | .slice t x lo hi mx => slW m t x lo hi mx
 | .load t x => ldW m t x
 | .store t x y => stW m t x y
 | .alloc t => alW t (zA t)
 | .box t x => bxW m t x
 | .buildSlice t n ps => rwW m n ps.toList (elemOf t)
 | .makeSlice t n q => mkW m n q (elemOf t)
 | .convert s d x => cvW m s d x
 | .makeMap t none => mkM t
 | .lookup t x y true => lkW m t x y
 | .lookup t x y false => leW m t x y
 | .mapUpdate t x y z => muW m t x y z
 | .call cl => caW m cl.callee cl.args.toList cl.argTypes.toList
 | _ => noH
structure Wd where
 f : En → AV → (En → Rs) → Rs
noncomputable def puW (m : Nat) (d : Option Nat) : Wd := match d with
 | none => ⟨fun e _ c => c e⟩
 | some d => match kept m d with
  | true => ⟨fun e v c => repK d v e.vs fun vs => c ⟨vs, e.ts, e.hs, e.ms⟩⟩
  | false => ⟨fun e v c => c ⟨e.vs, (d, v) :: e.ts, e.hs, e.ms⟩⟩
noncomputable def bqK (x : AV) (want : Bool) (a b : Rs) : Rs := AV.rec (motive := fun _ => Rs) (fun x => SV.rec (motive := fun _ => Rs) (fun _ _ => .no) (fun _ _ => .no) (fun q => ifK (eB q want) a b) (fun _ => .no) .no (fun _ _ => .no) .no (fun _ _ _ _ => .no) (fun _ _ _ _ _ => .no) (fun _ _ _ _ => .no) b (fun _ => .no) (fun _ _ => .no) (fun _ => .no) .no (fun _ _ => .no) (fun _ => .no) x) (fun _ => .no) (fun _ => .no) (fun _ _ => .no) x
noncomputable def dstOf (full : List Oper) (j : Nat) : Option Nat := List.rec (motive := fun _ => Nat → Option Nat) (fun _ => none) (fun o _ ih j => Nat.rec (motive := fun _ => Option Nat) o.dst (fun j _ => ih j) j) full j
noncomputable def dsO (d : Option Nat) (op : Op) : Bool := match d, op with
 | none, .store .. => true
 | some _, .store .. => false
 | none, .mapUpdate .. => true
 | some _, .mapUpdate .. => false
 | some _, _ => true
 | none, .call cl => match cl.callee with
  | .value _ => true
  | .builtin .append => true
  | .builtin .copy => true
  | .builtin .clear => true
  | _ => false
 | none, _ => false
noncomputable def anyX (l : List SV) : Bool := List.rec (motive := fun _ => Bool) false (fun x _ ih => match x with
 | .x _ _ => true
 | _ => ih) l
noncomputable def bz1 (x : SV) (f : Nat → Rs) : Rs := match x with
 | .n .u8 a => f a
 | .x .u8 id => fN (Nat.add 256 id) f
 | _ => .no
noncomputable def bzK (l : List SV) (k : List Nat → Rs) : Rs := List.rec (motive := fun _ => (List Nat → Rs) → Rs) (fun k => k []) (fun x _ ih k => bz1 x fun q => ih fun r => k (q :: r)) l k
noncomputable def cuK (σ : Mem) (c : Kt) (old : Rs) (l : List SV) : Rs := match anyX l with
 | true => bzK l fun r => okK (Nat.ble r.length maxLen) (c (.v (.sl r)) σ)
 | false => old
noncomputable def cuN (σ : Mem) (c : Kt) (k : IntKind) (old : Rs) (v : AV) : Rs := match xkO v with
 | some _ => newX σ c k
 | none => old
noncomputable def cuB (s d : TypeId) : Bool := match isS d, isS s, elemOf s with
 | true, false, some (el, 1) => match kindOf el with
  | some .u8 => true
  | _ => false
 | _, _, _ => false
noncomputable def cuW (m : Nat) (s d : TypeId) (x : Operand) (W : Wh) : Wh := match kindOf d, kindOf s with
 | some k, some _ => ⟨fun ih e σ c => (gtW m x).f e fun v => cuN σ c k (W.f ih e σ c) v⟩
 | none, _ => match cuB s d with
  | true => ⟨fun ih e σ c => (gtW m x).f e fun v => srK σ 1 v fun _ l => cuK σ c (W.f ih e σ c) l⟩
  | false => W
 | _, _ => W
noncomputable def opU (m : Nat) (op : Op) : Wh := match op with
 | .convert s d x => cuW m s d x (cvW m s d x)
 | op => opW m op
noncomputable def noO : Wo := ⟨fun _ _ _ _ => .no⟩
noncomputable def gdW (m : Nat) (full : List Oper) (o : Oper) (w : Wo) : Wo := match o.guard with
 | none => w
 | some (j, want) => match dstOf full j with
  | some d => ⟨fun ih e σ c => (gtT m d).f e fun q => bqK q want (w.f ih e σ c) ((puW m o.dst).f e (.v .u) fun e => c e σ)⟩
  | none => noO
noncomputable def orW (m : Nat) (full : List Oper) (o : Oper) : Wo := match dsO o.dst o.op with
 | false => noO
 | true => gdW m full o ⟨fun ih e σ c => (opU m o.op).f ih e σ fun v σ => (puW m o.dst).f e v fun e => c e σ⟩
abbrev Nt := Nat × Nat × List SV
structure Wl where
 f : En → Mem → (AV → Nt → Rs) → Rs
noncomputable def ldH (m : Nat) (t : TypeId) (x : Operand) : Wl := match one t with
 | true => ⟨fun e σ c => (gtW m x).f e fun p => onP p fun id o => obK σ id fun ob => getK ob.d o ob.m fun y => c (.v y) (id, o, [y])⟩
 | false => match get l_agg t with
  | some n => cN n fun n => ⟨fun e σ c => (gtW m x).f e fun p => onP p fun id o => rdK σ id o n fun l => c (.g l) (id, o, l)⟩
  | none => ⟨fun _ _ _ => .no⟩
noncomputable def noL : Wl := ⟨fun _ _ _ => .no⟩
noncomputable def cvN (σ : Mem) (c : AV → Nt → Rs) (id z j n : Nat) : Rs := zzK z 1 (rdK σ id j n fun l => byK l fun r => okK (Nat.ble r.length maxLen) (c (.v (.s r)) (id, j, l)))
noncomputable def rdH (m : Nat) (op : Op) : Wl := match op with
 | .convert s _ x => match isS s, elemOf s with
  | false, some (el, 1) => match kindOf el with
   | some .u8 => ⟨fun e σ c => (gtW m x).f e fun v => onL v .no (fun id z j n => cvN σ c id z j n) (fun id z j n _ => cvN σ c id z j n) .no (fun _ => .no) fun _ _ => .no⟩
   | _ => noL
  | _, _ => noL
 | _ => noL
noncomputable def orH (m : Nat) (hs : List Nat) (full : List Oper) (o : Oper) : Wo := match dsO o.dst o.op with
 | false => noO
 | true => match o.op with
  | .load t x => match memb hs o.dst with
   | true => gdW m full o ⟨fun _ e σ c => (ldH m t x).f e σ fun v n => (puW m o.dst).f e v fun e => c ⟨e.vs, e.ts, n :: e.hs, e.ms⟩ σ⟩
   | false => gdW m full o ⟨fun ih e σ c => (opW m (.load t x)).f ih e σ fun v σ' => (puW m o.dst).f e v fun e => c e σ'⟩
  | op => match cls isI isS op with
   | .w => gdW m full o ⟨fun ih e σ c => (opW m op).f ih e σ fun v σ => (puW m o.dst).f e v fun e => c ⟨e.vs, e.ts, e.hs, σ :: e.ms⟩ σ⟩
   | .p => gdW m full o ⟨fun ih e σ c => (opU m op).f ih e σ fun v σ' => (puW m o.dst).f e v fun e => c e σ'⟩
   | .r => match memb hs o.dst with
    | true => gdW m full o ⟨fun _ e σ c => (rdH m op).f e σ fun v n => (puW m o.dst).f e v fun e => c ⟨e.vs, e.ts, n :: e.hs, e.ms⟩ σ⟩
    | false => gdW m full o ⟨fun ih e σ c => (opW m op).f ih e σ fun v σ' => (puW m o.dst).f e v fun e => c e σ'⟩
   | .h => noO
noncomputable def regH (m : Nat) (hs : List Nat) (full l : List Oper) : Wo := List.rec (motive := fun _ => Wo) ⟨fun _ e σ c => c e σ⟩ (fun o _ r => ⟨fun ih e σ c => (orH m hs full o).f ih e σ fun e σ => r.f ih e σ c⟩) l
noncomputable def sE (x y : SV) : Bool := match x, y with
 | .n k a, .n k' b => an (Nat.beq (kn k) (kn k')) (Nat.beq a b)
 | .m k a, .m k' b => an (Nat.beq (kn k) (kn k')) (Nat.beq a b)
 | .b a, .b b => eB a b
 | .s a, .s b => eU a b
 | .p0, .p0 => true
 | .p i a, .p j b => an (Nat.beq i j) (Nat.beq a b)
 | .fl a, .fl b => Nat.beq a b
 | .mp i, .mp j => Nat.beq i j
 | .cx a b, .cx a' b' => an (Nat.beq a a') (Nat.beq b b')
 | .le i a b c, .le j a' b' c' => an (Nat.beq i j) (an (Nat.beq a a') (an (Nat.beq b b') (Nat.beq c c')))
 | .l0, .l0 => true
 | .i0, .i0 => true
 | .x k i, .x k' j => an (Nat.beq (kn k) (kn k')) (Nat.beq i j)
 | .sl a, .sl b => eU a b
 | .l i a b c, .l j a' b' c' => an (Nat.beq i j) (an (Nat.beq a a') (an (Nat.beq b b') (Nat.beq c c')))
 | .lx i a b c d, .lx j a' b' c' d' => an (Nat.beq i j) (an (Nat.beq a a') (an (Nat.beq b b') (an (Nat.beq c c') (Nat.beq d d'))))
 | _, _ => false
noncomputable def lE (a : List SV) : List SV → Bool := List.rec (motive := fun _ => List SV → Bool) (fun b => match b with
 | [] => true
 | _ :: _ => false) (fun x _ ih b => match b with
 | [] => false
 | y :: r => an (sE x y) (ih r)) a
noncomputable def ckM (ms : List Mem) (n : Nt) (r : Rs) : Rs := List.rec (motive := fun _ => Rs) r (fun σ _ ih => rdK σ n.1 n.2.1 n.2.2.length fun l => okK (lE n.2.2 l) ih) ms
noncomputable def ckA (σ0 : Mem) (ms : List Mem) (hs : List Nt) (r : Rs) : Rs := List.rec (motive := fun _ => Rs) r (fun n _ ih => okK (Nat.ble (Nat.add n.1 1) σ0.n) (ckM (σ0 :: ms) n ih)) hs
noncomputable def regW (m : Nat) (full l : List Oper) : Wo := List.rec (motive := fun _ => Wo) ⟨fun _ e σ c => c e σ⟩ (fun o _ r => ⟨fun ih e σ c => (orW m full o).f ih e σ fun e σ => r.f ih e σ c⟩) l
noncomputable def sqK (g : En → Mem → Rs) (r : Rs) : Rs := Rs.rec (motive := fun _ => Rs) .no (fun x e σ => Ex.rec (motive := fun _ => Rs) (g e σ) (fun n => .mk (.ext n) e σ) (fun n => .mk (.gto n) e σ) (.mk .ret e σ) (fun _ => .no) x) r
noncomputable def blK (id : Nat) (r : Rs) : Rs := Rs.rec (motive := fun _ => Rs) .no (fun x e σ => Ex.rec (motive := fun _ => Rs) (.mk .nrm e σ) (fun j => ifK (Nat.beq j id) (.mk .nrm e σ) (.mk (.ext j) e σ)) (fun n => .mk (.gto n) e σ) (.mk .ret e σ) (fun _ => .no) x) r
noncomputable def lpK (f : En → Mem → Rs) (n : Nat) : En → Mem → Rs := Nat.rec (motive := fun _ => En → Mem → Rs) (fun _ _ => .no) (fun _ ih e σ => sqK ih (f e σ)) n
noncomputable def scpK (g : Nat → En → Mem → Rs) (n : Nat) : Rs → Rs := Nat.rec (motive := fun _ => Rs → Rs) (fun _ => .no) (fun _ ag r => Rs.rec (motive := fun _ => Rs) .no (fun x e σ => Ex.rec (motive := fun _ => Rs) (.mk .nrm e σ) (fun n => .mk (.ext n) e σ) (fun l => ag (g l e σ)) (.mk .ret e σ) (fun _ => .no) x) r) n
noncomputable def lbW (go : Code → Wc) (b : Code) (l : Nat) : Wc := match findLabel b l with
 | some rest => go rest
 | none => ⟨fun _ _ _ _ => .no⟩
noncomputable def noC : Wc := ⟨fun _ _ _ _ => .no⟩
noncomputable def looseW (ops : Array Oper) (A : Array Nat) (i j : Nat) : Bool := match ops[j]? with
 | none => false
 | some o => match cls isI isS o.op with
  | .w => match Nat.ble (Nat.add j 1) i with
   | true => !(A.getD i 0).testBit j
   | false => !(A.getD j 0).testBit i
  | _ => false
noncomputable def ldU (ops : Array Oper) (A : Array Nat) (k : Nat) : List Nat := (List.range k).filterMap fun i => match ops[i]? with
 | none => none
 | some o => match o.op, o.dst with
  | .load .., some d => match (List.range ops.size).any (looseW ops A i) with
   | true => some d
   | false => none
  | .convert s t _, some d => match !isS s && isS t && (List.range ops.size).any (looseW ops A i) with
   | true => some d
   | false => none
  | _, _ => none
noncomputable def ldK (ops : Array Oper) (k : Nat) : List Nat := ldU ops (Region.before ops) k
noncomputable def isMk (op : Op) : Bool := match op with
 | .alloc _ => true
 | .buildSlice _ n _ => Nat.ble 1 n
 | _ => false
def freeB (hs : List Nat) (full : Array Oper) (A : Array Nat) (f : Nat) (post : List Nat) : List Nat → List (Nat × Bool) → Bool
 | l, [] => soloL isI isS hs full A l (f :: post) []
 | l, (i, true) :: pre => (l.filter (rdyB full l) == [i, f] || l.filter (rdyB full l) == [f, i]) && (soloL isI isS hs full A (l.erase f) (i :: pre.map Prod.fst ++ post) [] && freeB hs full A f post (l.erase i) pre)
 | l, (i, false) :: pre => (soloB isI isS hs full A l i || l.filter (rdyB full l) == [i]) && freeB hs full A f post (l.erase i) pre
noncomputable def opsAt (l : List Oper) (is : List Nat) : Option (List Oper) := List.rec (motive := fun _ => Option (List Oper)) (some []) (fun i _ ih => match l[i]?, ih with
 | some o, some r => some (o :: r)
 | _, _ => none) is
def planF (hs : List Nat) (full : Array Oper) (A : Array Nat) (f : Nat) : Nat → List Nat → Option (List (Nat × Bool) × List Nat)
 | 0, _ => none
 | n + 1, l => match l.find? fun i => !(i == f) && soloB isI isS hs full A l i with
  | some i => match planF hs full A f n (l.erase i) with
   | some (pre, post) => some ((i, false) :: pre, post)
   | none => none
  | none => match l.filter (rdyB full l) with
   | [a] => if a == f then some ([], l.erase f) else match planF hs full A f n (l.erase a) with
    | some (pre, post) => some ((a, false) :: pre, post)
    | none => none
   | [a, b] => match planF hs full A f n (l.erase (if a == f then b else a)) with
    | some (pre, post) => some ((if a == f then b else a, true) :: pre, post)
    | none => none
   | _ => none
structure Fr0 where
 hs : List Nat
 pre : List (Oper × Bool)
 d : Nat
 d2 : Nat
 f : Oper
 post : List Oper
def readsT (op : Op) (t : Nat) : Bool := op.operands.toList.any fun x => match x with
 | .tmp u => Nat.beq u t
 | _ => false
def offF (d : Nat) (op : Op) (o : Oper) : Bool := match o.dst with
 | some t => !(Nat.beq t d || readsT op t)
 | none => true
def farF (d : Nat) (op : Op) : List (Oper × Bool) → Bool
 | [] => true
 | (o, true) :: r => offF d op o && r.all (fun x => offF d op x.1) && farF d op r
 | (_, false) :: r => farF d op r
noncomputable def frOK (hs : List Nat) (ops : Array Oper) (A : Array Nat) (f : Nat) : Option Fr0 := match ops[f]? with
 | some ⟨some d, op, ty, pos, af, none⟩ => match isMk op && !readsT op d, planF hs ops A f (ops.size + 1) (List.range ops.size) with
  | true, some (pre, post) => match freeB hs ops A f post (List.range ops.size) pre, opsAt ops.toList (pre.map Prod.fst), opsAt ops.toList post with
   | true, some opre, some opost => match farF d op (opre.zip (pre.map Prod.snd)) with
    | true => some ⟨hs, opre.zip (pre.map Prod.snd), d, d, ⟨some d, op, ty, pos, af, none⟩, opost⟩
    | false => none
   | _, _, _ => none
  | _, _ => none
 | _ => none
def freeG (hs : List Nat) (full : Array Oper) (A : Array Nat) (f g : Nat) (post : List Nat) : List Nat → List (Nat × Bool) → Bool
 | l, [] => soloL isI isS hs full A l (f :: g :: post) []
 | l, (i, true) :: pre => (l.filter (rdyB full l) == [i, f] || l.filter (rdyB full l) == [f, i]) && (freeB hs full A g post (l.erase f) ((i, true) :: pre) && freeG hs full A f g post (l.erase i) pre)
 | l, (i, false) :: pre => (soloB isI isS hs full A l i || l.filter (rdyB full l) == [i]) && freeG hs full A f g post (l.erase i) pre
noncomputable def isCv (d : Nat) (t : TypeId) (op : Op) : Bool := match op with
 | .convert s u (.tmp x) => Nat.beq x d && (Nat.beq s t && (isS u && (!isS s && match elemOf s with
  | some (el, 1) => match kindOf el with
   | some .u8 => true
   | _ => false
  | _ => false)))
 | _ => false
noncomputable def findG (ops : Array Oper) (d : Nat) (t : TypeId) : Option Nat := (List.range ops.size).find? fun i => match ops[i]? with
 | some o => isCv d t o.op
 | none => false
def farG (d2 : Nat) : List (Oper × Bool) → Bool
 | [] => true
 | x :: r => (match x.1.dst with
  | some t => !Nat.beq t d2
  | none => true) && farG d2 r
noncomputable def bsT (op : Op) : Option TypeId := match op with
 | .buildSlice t n _ => match Nat.ble 1 n with
  | true => some t
  | false => none
 | _ => none
noncomputable def frOG (hs0 : List Nat) (ops : Array Oper) (A : Array Nat) (f : Nat) : Option Fr0 := match ops[f]? with
 | some ⟨some d, op, ty, pos, af, none⟩ => match bsT op, readsT op d with
  | some t, false => match findG ops d t with
   | some g => match ops[g]? with
    | some ⟨some d2, op2, ty2, pos2, af2, none⟩ => match isCv d t op2 && !Nat.beq d d2 && !readsT op d2, planF (hs0.filter fun t => !Nat.beq t d2) ops A f (ops.size + 1) (List.range ops.size) with
     | true, some (pre, g' :: post) => match Nat.beq g' g && !memb (hs0.filter fun t => !Nat.beq t d2) (some d2) && freeG (hs0.filter fun t => !Nat.beq t d2) ops A f g post (List.range ops.size) pre, opsAt ops.toList (pre.map Prod.fst), opsAt ops.toList post with
      | true, some opre, some opost => match farF d op (opre.zip (pre.map Prod.snd)) && farG d2 (opre.zip (pre.map Prod.snd)) with
       | true => some ⟨hs0.filter fun t => !Nat.beq t d2, opre.zip (pre.map Prod.snd), d, d2, ⟨some d, op, ty, pos, af, none⟩, ⟨some d2, op2, ty2, pos2, af2, none⟩ :: opost⟩
       | false => none
      | _, _, _ => none
     | _, _ => none
    | _ => none
   | none => none
  | _, _ => none
 | _ => none
inductive Rk where
 | bad | text
 | held (cut : Nat)
 | free (x : Fr0)
 | freg (x : Fr0)
noncomputable def stP (l : List Oper) (k : Nat) : List Nat := List.rec (motive := fun _ => Nat → List Nat) (fun k => [k]) (fun o _ ih k => match o.op with
 | .store .. => k :: ih (Nat.add k 1)
 | _ => ih (Nat.add k 1)) l k
noncomputable def cutR (ops : Array Oper) (l : List Nat) : Rk := List.rec (motive := fun _ => Rk) .bad (fun k _ ih => cN k fun k => match seqOK2 isI isS (ldK ops k) k ops (Region.before ops) with
 | true => .held k
 | false => ih) l
noncomputable def regOK (N : Nat) (drawn : Bool) (ops : Array Oper) : Rk := match dstOK N ops with
 | false => .bad
 | true => match drawn with
  | false => .text
  | true => match seqOK isI isS [] ops (Region.before ops) with
   | true => .text
   | false => match cutR ops (stP ops.toList 0) with
    | .bad => match ancOK ops (Region.before ops) with
     | true => match (List.range ops.size).findSome? (frOG (ldK ops ops.size) ops (Region.before ops)) with
      | some x => .freg x
      | none => match (List.range ops.size).findSome? (frOK (ldK ops ops.size) ops (Region.before ops)) with
       | some x => .free x
       | none => .bad
     | false => .bad
    | x => x
noncomputable def delL (d : Nat) (l : AEnv) : AEnv := List.rec (motive := fun _ => AEnv) [] (fun x _ ih => Bool.rec (motive := fun _ => AEnv) (x :: ih) ih (Nat.beq x.1 d)) l
noncomputable def delE (d : Nat) (e : En) : En := ⟨delL d e.vs, delL d e.ts, e.hs, e.ms⟩
noncomputable def regF (m : Nat) (hs : List Nat) (full : List Oper) (d d2 : Nat) (l : List (Oper × Bool)) : Wo := List.rec (motive := fun _ => Wo) ⟨fun _ e σ c => c e σ⟩ (fun o _ r => ⟨fun ih e σ c => (orH m hs full o.1).f ih (delE d (delE d2 e)) σ fun e σ => r.f ih e σ c⟩) l
noncomputable def codW (N m : Nat) (d : Nat) : Code → Wc := Nat.rec (motive := fun _ => Code → Wc) (fun _ => noC) (fun _ go c => match c with
 | .skip => ⟨fun _ _ e σ => .mk .nrm e σ⟩
 | .label _ => ⟨fun _ _ e σ => .mk .nrm e σ⟩
 | .region _ ops drawn => match regOK N drawn ops with
  | .text => ⟨fun ih _ e σ => (regW m ops.toList ops.toList).f ih ⟨e.vs, [], [], []⟩ σ fun e σ => .mk .nrm e σ⟩
  | .held k => ⟨fun ih _ e σ => (regH m (ldK ops k) ops.toList (ops.toList.take k)).f ih ⟨e.vs, [], [], []⟩ σ fun e' σ' => ckA σ e'.ms e'.hs ((regW m ops.toList (ops.toList.drop k)).f ih e' σ' fun e σ => .mk .nrm e σ)⟩
  | .free x => ⟨fun ih _ e σ => (regF m x.hs ops.toList x.d x.d2 x.pre).f ih ⟨e.vs, [], [], []⟩ σ fun e' σ' => (orH m x.hs ops.toList x.f).f ih e' σ' fun e' σ' => (regH m x.hs ops.toList x.post).f ih e' σ' fun e' σ' => ckA σ e'.ms e'.hs (.mk .nrm e' σ')⟩
  | .freg x => ⟨fun ih _ e σ => (regF m x.hs ops.toList x.d x.d2 x.pre).f ih ⟨e.vs, [], [], []⟩ σ fun e' σ' => (orH m x.hs ops.toList x.f).f ih e' σ' fun e' σ' => (regH m x.hs ops.toList x.post).f ih e' σ' fun e' σ' => ckA σ e'.ms e'.hs (.mk .nrm e' σ')⟩
  | .bad => noC
 | .seq a b => ⟨fun ih n e σ => sqK ((go b).f ih n) ((go a).f ih n e σ)⟩
 | .cond x a b => ⟨fun ih n e σ => (gtW m x).f e fun q => onB q ((go a).f ih n e σ) ((go b).f ih n e σ)⟩
 | .block id b => ⟨fun ih n e σ => blK id ((go b).f ih n e σ)⟩
 | .loop b => ⟨fun ih n e σ => lpK ((go b).f ih n) n e σ⟩
 | .scope b => ⟨fun ih n e σ => scpK (fun l => (lbW go b l).f ih n) n ((go b).f ih n e σ)⟩
 | .exit id => ⟨fun _ _ e σ => .mk (.ext id) e σ⟩
 | .goto l => ⟨fun _ _ e σ => .mk (.gto l) e σ⟩
 | .ret => ⟨fun _ _ e σ => .mk .ret e σ⟩
 | _ => noC) d
noncomputable def paK (m : Nat) (l : List AV) (c : AEnv → Rs) : Rs := List.rec (motive := fun _ => Nat → (AEnv → Rs) → Rs) (fun _ c => c []) (fun x _ ih k c => fN (Nat.add k 1) fun k' => ih k' fun r => ifK (kept m k) (c ((k, x) :: r)) (c r)) l 0 c
structure Wr where
 f : En → Mem → (AV → Rs) → Rs
structure Wrs where
 f : En → Mem → (List AV → Rs) → Rs
noncomputable def reW (m : Nat) (r : ResultVar) : Wr := match r with
 | .tmp t => ⟨fun e _ k => (gtT m t).f e k⟩
 | .cell a t => match one t with
  | true => ⟨fun e σ k => (gtT m a).f e fun p => onP p fun id o => obK σ id fun ob => getK ob.d o ob.m fun x => k (.v x)⟩
  | false => match get l_agg t with
   | some n => cN n fun n => ⟨fun e σ k => (gtT m a).f e fun p => onP p fun id o => rdK σ id o n fun l => k (.g l)⟩
   | none => ⟨fun _ _ _ => .no⟩
noncomputable def resW (m : Nat) (l : List ResultVar) : Wrs := List.rec (motive := fun _ => Wrs) ⟨fun _ _ k => k []⟩ (fun x _ r => ⟨fun e σ k => (reW m x).f e σ fun v => r.f e σ fun l => k (v :: l)⟩) l
noncomputable def tuK (l : List AV) (k : List TV → Rs) : Rs := List.rec (motive := fun _ => (List TV → Rs) → Rs) (fun k => k []) (fun x _ ih k => onV x (fun x => ih fun l => k (.v x :: l)) fun g => ih fun l => k (.g g :: l)) l k
noncomputable def toK (e : En) (σ : Mem) (l : List AV) : Rs := List.rec (motive := fun _ => Rs) (.mk (.val (.t [])) e σ) (fun x r _ => List.rec (motive := fun _ => Rs) (.mk (.val x) e σ) (fun _ _ _ => tuK (x :: r) fun l => .mk (.val (.t l)) e σ) r) l
noncomputable def reK (w : Wrs) (r : Rs) : Rs := Rs.rec (motive := fun _ => Rs) .no (fun x e σ => Ex.rec (motive := fun _ => Rs) (w.f e σ fun l => toK e σ l) (fun _ => .no) (fun _ => .no) (w.f e σ fun l => toK e σ l) (fun _ => .no) x) r
structure Wf where
 f : Cl → List AV → Mem → Rs
noncomputable def lF : Nat := 1000000
inductive Fe where
 | code (fn : Func) (m : Nat)
 | orc (o : List AV → Mem → Rs)
noncomputable def fnW (x : Option Fe) : Wf := match x with
 | some (.code fn m) => match fn.body with
  | some c => ⟨fun ih vs σ => okK (Nat.ble vs.length fn.ntmps) <| paK m vs fun l => reK (resW m fn.results.toList) ((codW fn.ntmps m 1000 c).f ih lF ⟨l, [], [], []⟩ σ)⟩
  | none => ⟨fun _ _ _ => .no⟩
 | some (.orc o) => ⟨fun _ vs σ => o vs σ⟩
 | none => ⟨fun _ _ _ => .no⟩
noncomputable def nthF (l : List (Nat × Fe)) (f : Nat) : Option Fe := List.rec (motive := fun _ => Option Fe) none (fun x _ ih => match Nat.beq x.1 f with
 | true => some x.2
 | false => ih) l
noncomputable def run (tab : List (Nat × Fe)) (n : Nat) : Cl := Nat.rec (motive := fun _ => Cl) (fun _ _ _ => .no) (fun _ ih f vs σ => (fnW (nthF tab f)).f ih vs σ) n
noncomputable def ok (r : Rs) : Bool := Rs.rec (motive := fun _ => Bool) false (fun x _ _ => Ex.rec (motive := fun _ => Bool) false (fun _ => false) (fun _ => false) false (fun v => match v with
 | .v (.b b) => b
 | _ => false) x) r
end Rn
end Eng
end Go.Proofs.YtpfelapckcojjaaGreatDoor
namespace Go.Proofs.YtpfelapckcojjaaGreatDoor.Eng
open Go.RowKit
section
def MpB (w : World) (g : Nat) (l : List (Int × Int)) : Prop := ∃ es clock, w.heap[g]? = some (.map es clock) ∧ es.toList.map (fun e => (e.key, e.val)) = l.map fun p => (Value.int .i64 p.1, Value.int .i64 p.2)
def asc (k : Int) : List (Int × Int) → Option Int
 | [] => none
 | p :: r => if p.1 = k then some p.2 else asc k r
theorem MpB.lt {w : World} {g : Nat} {l : List (Int × Int)} (h : MpB w g l) : g < w.heap.size := by
 obtain ⟨es, clock, h1, _⟩ := h
 exact (Array.getElem?_eq_some_iff.1 h1).1
theorem MpB.fr {S : Nat → Prop} {w w' : World} {g : Nat} {l : List (Int × Int)} (h : MpB w g l) (hf : Fr S w w') (hS : ¬ S g) : MpB w' g l := by
 have hlt := h.lt
 obtain ⟨es, clock, h1, h2⟩ := h
 exact ⟨es, clock, (hf.block g hlt hS).trans h1, h2⟩
theorem MpB.ext {w w' : World} {g : Nat} {l : List (Int × Int)} (h : MpB w g l) (hf : Ext w w') : MpB w' g l := h.fr hf fun hh => hh
theorem findNow_asc (k : Int) : ∀ (es : List MapEntry) (l : List (Int × Int)) (i : Nat), es.map (fun e => (e.key, e.val)) = l.map (fun p => (Value.int .i64 p.1, Value.int .i64 p.2)) →
  ∃ r, Instr.findNow (.int .i64) (.int .i64 k) es i = some r ∧ r.map (·.2) = (asc k l).map (Value.int .i64)
 | [], [], _, _ => ⟨none, rfl, rfl⟩
 | [], _ :: _, _, h => by simp at h
 | _ :: _, [], _, h => by simp at h
 | e :: es, p :: l, i, h => by
  simp only [List.map_cons, List.cons.injEq, Prod.mk.injEq] at h
  obtain ⟨⟨h1, h2⟩, h3⟩ := h
  have hs : Instr.sameNow (.int .i64) (.int .i64 k) e.key = some (k == p.1) := by rw [h1]; rfl
  by_cases hk : p.1 = k
  ·refine ⟨some (i, e.val), ?_, ?_⟩
   ·rw [Instr.findNow, hs, hk]; simp
   ·rw [asc, if_pos hk, h2]; rfl
  ·obtain ⟨r, h4, h5⟩ := findNow_asc k es l (i + 1) h3
   refine ⟨r, ?_, by rw [asc, if_neg hk]; exact h5⟩
   have : (k == p.1) = false := by simpa using fun e' : k = p.1 => hk e'.symm
   rw [Instr.findNow, hs, this]
   exact h4
section
variable {hs : List Nat} {H : World → Prop} {full : Array Oper} {K : Env → World → Prop} {rest : List Oper} {env : Env} {w : World} {d : Tmp} {ty : TypeId} {pos : String} {af : Array Edge}
theorem xmkm {t : TypeId} (h : ∀ w', MpB w' w.heap.size [] → Ext w w' → w'.heap.size = w.heap.size + 1 → xs Tryz.prog isI isS hs noH full K rest ((d, .map (some w.heap.size)) :: env) w') :
  xs Tryz.prog isI isS hs noH full K (⟨some d, .makeMap t none, ty, pos, af, none⟩ :: rest) env w := by
 refine xw (by simp [opsOK, Op.operands]) rfl (v := .map (some w.heap.size)) (w' := w.alloc (.map #[] 0)) ?_ (h _ ⟨#[], 0, by
  show (w.heap.push _)[w.heap.size]? = _
  simp, rfl⟩ (Fr.alloc _ _ _) (by simp)) True.intro
 simp [execOp, run_makeMap]
theorem run_lk {w : World} {g : Nat} {l : List (Int × Int)} (hB : MpB w g l) (t kt et : TypeId) (hu : Tryz.prog.underlying t = some (.map kt et)) (hk : Tryz.prog.underlying kt = some (.int .i64)) (hz : (zeroValue et).run Tryz.prog w = .ok (.int .i64 0) w) (k : Int) :
  (Instr.lookup t (.map (some g)) (.int .i64 k) true).run Tryz.prog w = .ok (.tuple #[.int .i64 ((asc k l).getD 0), .bool (asc k l).isSome]) w := by
 obtain ⟨es, clock, h1, h2⟩ := hB
 obtain ⟨r, h3, h4⟩ := findNow_asc k es.toList l 0 h2
 have hc : (Instr.checkKey es.isEmpty 10000 kt (.int .i64 k)).run Tryz.prog w = .ok () w := MapKept.run_checkKey (k := .int .i64 k) hk (by simp [MapKept.IsKey]) _ 9999
 have hg : (getObj g).run Tryz.prog w = .ok (.map es clock) w := by simp [getObj, Sem.run, h1]
 have hf : (Instr.findKey kt (.int .i64 k) es.toList).run Tryz.prog w = .ok r w := by
  simp [Instr.findKey, run_underlying hk, h3]
 simp only [Instr.lookup, Sem.run_bind, run_underlying hu, Result.andThen_ok, hg, hc, Sem.run_pure, hf]
 cases r with
 | none =>
  have : asc k l = none := by simpa using h4.symm
  rw [this]
  simp [hz]
 | some q =>
  obtain ⟨j, v⟩ := q
  simp only [Option.map_some] at h4
  cases ha : asc k l with
  | none => rw [ha] at h4; cases h4
  | some z =>
   rw [ha] at h4
   simp only [Option.map_some, Option.some.injEq] at h4
   subst h4
   simp
theorem xlk {t kt et : TypeId} {x y : Operand} {g : Nat} {l : List (Int × Int)} {k : Int} (hu : Tryz.prog.underlying t = some (.map kt et)) (hk : Tryz.prog.underlying kt = some (.int .i64)) (hz : ∀ w', (zeroValue et).run Tryz.prog w' = .ok (.int .i64 0) w') (hB : MpB w g l) (hx : evo env x = some (.map (some g))) (hy : evo env y = some (.int .i64 k))
  (h : xs Tryz.prog isI isS hs noH full K rest ((d, .tuple #[.int .i64 ((asc k l).getD 0), .bool (asc k l).isSome]) :: env) w) : xs Tryz.prog isI isS hs noH full K (⟨some d, .lookup t x y true, ty, pos, af, none⟩ :: rest) env w := by
 refine xw (v := .tuple #[.int .i64 ((asc k l).getD 0), .bool (asc k l).isSome]) (w' := w) (by simp [opsOK, Op.operands, hx, hy]) rfl ?_ h True.intro
 simp [execOp, ev_of hx, ev_of hy, run_lk hB t kt et hu hk (hz w) k]
theorem xmup {t kt et : TypeId} {x y z : Operand} {g : Nat} {l : List (Int × Int)} {k v : Int} (hu : Tryz.prog.underlying t = some (.map kt et)) (hk : Tryz.prog.underlying kt = some (.int .i64)) (hB : MpB w g l) (hn : asc k l = none) (hx : evo env x = some (.map (some g))) (hy : evo env y = some (.int .i64 k)) (hz : evo env z = some (.int .i64 v))
  (h : ∀ w', MpB w' g (l ++ [(k, v)]) → Fr (· = g) w w' → xs Tryz.prog isI isS hs noH full K rest env w') : xs Tryz.prog isI isS hs noH full K (⟨none, .mapUpdate t x y z, ty, pos, af, none⟩ :: rest) env w := by
 have hlt := hB.lt
 obtain ⟨es, clock, h1, h2⟩ := hB
 obtain ⟨r, h3, h4⟩ := findNow_asc k es.toList l 0 h2
 have hr : r = none := by
  rw [hn] at h4
  cases r with
  | none => rfl
  | some _ => cases h4
 subst hr
 have hc : (Instr.checkKey false 10000 kt (.int .i64 k)).run Tryz.prog w = .ok () w := MapKept.run_checkKey (k := .int .i64 k) hk (by simp [MapKept.IsKey]) false 9999
 have hrun : (Instr.mapUpdate t (.map (some g)) (.int .i64 k) (.int .i64 v)).run Tryz.prog w = .ok () { w with heap := w.heap.setIfInBounds g (.map (es.push { key := .int .i64 k, val := .int .i64 v, born := clock }) (clock + 1)) } := by
  simp [Instr.mapUpdate, run_underlying hu, MapKept.run_getObj_map h1, hc, MapKept.run_findKey hk h3, MapKept.run_setObj_map _ h1, Result.andThen]
 refine x_gen rfl (by simp [opsOK, Op.operands, hx, hy, hz]) ?_
 have hcl : clsO isI isS hs ⟨none, .mapUpdate t x y z, ty, pos, af, none⟩ = .w := rfl
 rw [hcl]
 show out Tryz.prog ((execOp (ev env) ⟨none, .mapUpdate t x y z, ty, pos, af, none⟩).run Tryz.prog w) _
 have e : (execOp (ev env) ⟨none, .mapUpdate t x y z, ty, pos, af, none⟩).run Tryz.prog w = .ok .skip { w with heap := w.heap.setIfInBounds g (.map (es.push { key := .int .i64 k, val := .int .i64 v, born := clock }) (clock + 1)) } := by
  simp [execOp, ev_of hx, ev_of hy, ev_of hz, hrun]
 rw [e]
 refine ⟨True.intro, h _ ⟨es.push { key := .int .i64 k, val := .int .i64 v, born := clock }, clock + 1, ?_, ?_⟩ ⟨rfl, rfl, rfl, ?_, ?_⟩⟩
 ·show (w.heap.setIfInBounds g _)[g]? = _
  rw [Array.getElem?_setIfInBounds_self_of_lt hlt]
 ·simp [h2]
 ·show w.heap.size ≤ (w.heap.setIfInBounds g _).size
  simp
 ·intro j hj hne
  show (w.heap.setIfInBounds g _)[j]? = _
  rw [Array.getElem?_setIfInBounds_ne (fun e' => hne e'.symm)]
end
end
end Go.Proofs.YtpfelapckcojjaaGreatDoor.Eng
namespace Go.Proofs.YtpfelapckcojjaaGreatDoor
open Go.RowKit
namespace Eng
namespace Rn
theorem fN_eq (n : Nat) (k : Nat → Rs) : fN n k = k n := by
 cases n <;> rfl
theorem fP_eq {α : Type} (l : List α) (k : List α → Rs) : fP l k = k l := by
 induction l generalizing k with
 | nil => rfl
 | cons x r ih => exact ih fun r => k (x :: r)
theorem cN_eq {γ : Type} (n : Nat) (k : Nat → γ) : cN n k = k n := by
 cases n <;> rfl
theorem cU_eq {γ : Type} (l : List Nat) (k : List Nat → γ) : cU l k = k l := by
 induction l generalizing k with
 | nil => rfl
 | cons x r ih =>
  show cN x (fun x => cU r fun r => k (x :: r)) = _
  rw [cN_eq]
  exact ih _
theorem cV_eq {γ : Type} (x : SV) (k : SV → γ) : cV x k = k x := by
 cases x with
 | n i a => exact cN_eq a fun a => k (.n i a)
 | m i a => exact cN_eq a fun a => k (.m i a)
 | s l => exact cU_eq l fun l => k (.s l)
 | _ => rfl
theorem cVs_eq {γ : Type} (l : List SV) (k : List SV → γ) : cVs l k = k l := by
 induction l generalizing k with
 | nil => rfl
 | cons x r ih =>
  show cV x (fun x => cVs r fun r => k (x :: r)) = _
  rw [cV_eq]
  exact ih _
theorem okK_inv {b : Bool} {x r : Rs} (h : okK b x = r) (hr : r ≠ .no) : b = true ∧ x = r := by
 cases b with
 | true => exact ⟨rfl, h⟩
 | false => exact absurd h.symm hr
theorem ifK_eq (b : Bool) (x y : Rs) : ifK b x y = if b = true then x else y := by
 cases b <;> rfl
def tget {α : Type} : Nat → Nat → Tr α → Option α
 | 0, 0, .leaf v => some v
 | 0, _, _ => none
 | _ + 1, _, .nil => none
 | _ + 1, _, .leaf _ => none
 | d + 1, k, .node l r => if Nat.land k 1 = 0 then tget d (Nat.shiftRight k 1) l else tget d (Nat.shiftRight k 1) r
theorem getK_inv {α : Type} {c : α → Rs} {res : Rs} (hr : res ≠ .no) : ∀ {d k : Nat} {t : Tr α}, getK d k t c = res → ∃ x, tget d k t = some x ∧ c x = res
 | 0, 0, .nil, h => absurd h.symm hr
 | 0, 0, .leaf v, h => ⟨v, rfl, h⟩
 | 0, 0, .node _ _, h => absurd h.symm hr
 | 0, _ + 1, _, h => absurd h.symm hr
 | _ + 1, _, .nil, h => absurd h.symm hr
 | _ + 1, _, .leaf _, h => absurd h.symm hr
 | d + 1, k, .node l r, h => by
  have h' : Nat.rec (motive := fun _ => Rs) (getK d (Nat.shiftRight k 1) l c) (fun _ _ => getK d (Nat.shiftRight k 1) r c) (Nat.land k 1) = res := h
  unfold tget
  cases hk : Nat.land k 1 with
  | zero =>
   rw [hk] at h'
   rw [if_pos rfl]
   exact getK_inv hr (d := d) h'
  | succ n =>
   rw [hk] at h'
   rw [if_neg (by omega)]
   exact getK_inv hr (d := d) h'
theorem key_ne {k k' : Nat} (hn : k' ≠ k) (e : Nat.land k' 1 = Nat.land k 1) : Nat.shiftRight k' 1 ≠ Nat.shiftRight k 1 := by
 intro h
 have e1 : k' % 2 = k % 2 := by have := e; simpa [Nat.and_one_is_mod] using this
 have h1 : k' / 2 = k / 2 := by have := h; simpa [Nat.shiftRight_eq_div_pow] using this
 omega
def Put {α : Type} (d k : Nat) (x : α) (t t' : Tr α) : Prop := tget d k t' = some x ∧ ∀ k', k' ≠ k → tget d k' t' = tget d k' t
theorem updK_inv {α : Type} {x : α} {res : Rs} (hr : res ≠ .no) : ∀ {d k : Nat} {t : Tr α} {c : Tr α → Rs}, updK d k x t c = res → ∃ t', Put d k x t t' ∧ (tget d k t).isSome = true ∧ c t' = res
 | 0, 0, .nil, _, h => absurd h.symm hr
 | 0, 0, .leaf v, _, h => ⟨.leaf x, ⟨rfl, fun k' hk => by
  cases k' with
  | zero => exact absurd rfl hk
  | succ n => rfl⟩, rfl, h⟩
 | 0, 0, .node _ _, _, h => absurd h.symm hr
 | 0, _ + 1, _, _, h => absurd h.symm hr
 | _ + 1, _, .nil, _, h => absurd h.symm hr
 | _ + 1, _, .leaf _, _, h => absurd h.symm hr
 | d + 1, k, .node l r, c, h => by
  have h' : Nat.rec (motive := fun _ => Rs) (updK d (Nat.shiftRight k 1) x l fun l => c (.node l r)) (fun _ _ => updK d (Nat.shiftRight k 1) x r fun r => c (.node l r)) (Nat.land k 1) = res := h
  have hb : Nat.land k 1 = 0 ∨ Nat.land k 1 = 1 := by
   have : Nat.land k 1 = k % 2 := Nat.and_one_is_mod k
   omega
  rcases hb with hk | hk
  ·rw [hk] at h'
   obtain ⟨t', ⟨h1, h2⟩, h3, h4⟩ := updK_inv hr (d := d) h'
   refine ⟨.node t' r, ⟨by simp only [tget, hk, if_true]; exact h1, fun k' hn => ?_⟩, by simp only [tget, hk, if_true]; exact h3, h4⟩
   simp only [tget]
   split
   ·rename_i e; exact h2 _ (key_ne hn (e.trans hk.symm))
   ·rfl
  ·rw [hk] at h'
   obtain ⟨t', ⟨h1, h2⟩, h3, h4⟩ := updK_inv hr (d := d) h'
   refine ⟨.node l t', ⟨by simp only [tget, hk, if_neg (by decide : ¬ (1 : Nat) = 0)]; exact h1, fun k' hn => ?_⟩, by simp only [tget, hk, if_neg (by decide : ¬ (1 : Nat) = 0)]; exact h3, h4⟩
   simp only [tget]
   split
   ·rfl
   ·rename_i e
    have e' : Nat.land k' 1 = 1 := by
     have : Nat.land k' 1 = k' % 2 := Nat.and_one_is_mod k'
     omega
    exact h2 _ (key_ne hn (e'.trans hk.symm))
theorem setK_inv {α : Type} {x : α} {res : Rs} (hr : res ≠ .no) : ∀ {d k : Nat} {t : Tr α} {c : Tr α → Rs}, setK d k x t c = res → ∃ t', Put d k x t t' ∧ c t' = res
 | 0, 0, t, c, h => ⟨.leaf x, ⟨rfl, fun k' hk => by
  cases k' with
  | zero => exact absurd rfl hk
  | succ n => cases t <;> rfl⟩, h⟩
 | 0, _ + 1, _, _, h => absurd h.symm hr
 | _ + 1, _, .leaf _, _, h => absurd h.symm hr
 | d + 1, k, .nil, c, h => by
  have h' : Nat.rec (motive := fun _ => Rs) (setK d (Nat.shiftRight k 1) x .nil fun l => c (.node l .nil)) (fun _ _ => setK d (Nat.shiftRight k 1) x .nil fun r => c (.node .nil r)) (Nat.land k 1) = res := h
  have hb : Nat.land k 1 = 0 ∨ Nat.land k 1 = 1 := by
   have : Nat.land k 1 = k % 2 := Nat.and_one_is_mod k
   omega
  have hnil : ∀ d k', tget d k' (Tr.nil : Tr α) = none := fun d k' => by
   cases d <;> cases k' <;> rfl
  rcases hb with hk | hk
  ·rw [hk] at h'
   obtain ⟨t', ⟨h1, h2⟩, h4⟩ := setK_inv hr (d := d) h'
   refine ⟨.node t' .nil, ⟨by simp only [tget, hk, if_true]; exact h1, fun k' hn => ?_⟩, h4⟩
   simp only [tget]
   split
   ·rename_i e; rw [h2 _ (key_ne hn (e.trans hk.symm)), hnil]
   ·rw [hnil]
  ·rw [hk] at h'
   obtain ⟨t', ⟨h1, h2⟩, h4⟩ := setK_inv hr (d := d) h'
   refine ⟨.node .nil t', ⟨by simp only [tget, hk, if_neg (by decide : ¬ (1 : Nat) = 0)]; exact h1, fun k' hn => ?_⟩, h4⟩
   simp only [tget]
   split
   ·rw [hnil]
   ·rename_i e
    have e' : Nat.land k' 1 = 1 := by
     have : Nat.land k' 1 = k' % 2 := Nat.and_one_is_mod k'
     omega
    rw [h2 _ (key_ne hn (e'.trans hk.symm)), hnil]
 | d + 1, k, .node l r, c, h => by
  have h' : Nat.rec (motive := fun _ => Rs) (setK d (Nat.shiftRight k 1) x l fun l => c (.node l r)) (fun _ _ => setK d (Nat.shiftRight k 1) x r fun r => c (.node l r)) (Nat.land k 1) = res := h
  have hb : Nat.land k 1 = 0 ∨ Nat.land k 1 = 1 := by
   have : Nat.land k 1 = k % 2 := Nat.and_one_is_mod k
   omega
  rcases hb with hk | hk
  ·rw [hk] at h'
   obtain ⟨t', ⟨h1, h2⟩, h4⟩ := setK_inv hr (d := d) h'
   refine ⟨.node t' r, ⟨by simp only [tget, hk, if_true]; exact h1, fun k' hn => ?_⟩, h4⟩
   simp only [tget]
   split
   ·rename_i e; exact h2 _ (key_ne hn (e.trans hk.symm))
   ·rfl
  ·rw [hk] at h'
   obtain ⟨t', ⟨h1, h2⟩, h4⟩ := setK_inv hr (d := d) h'
   refine ⟨.node l t', ⟨by simp only [tget, hk, if_neg (by decide : ¬ (1 : Nat) = 0)]; exact h1, fun k' hn => ?_⟩, h4⟩
   simp only [tget]
   split
   ·rfl
   ·rename_i e
    have e' : Nat.land k' 1 = 1 := by
     have : Nat.land k' 1 = k' % 2 := Nat.and_one_is_mod k'
     omega
    exact h2 _ (key_ne hn (e'.trans hk.symm))
section
variable {res : Rs} (hr : res ≠ .no)
include hr
theorem rdT_inv {d : Nat} {m : Tr SV} : ∀ {n o : Nat} {c : List SV → Rs}, rdT d m o n c = res → ∃ l, l.length = n ∧ (∀ i, i < n → tget d (o + i) m = l[i]?) ∧ c l = res
 | 0, _, _, h => ⟨[], rfl, fun i hi => absurd hi (Nat.not_lt_zero i), h⟩
 | n + 1, o, c, h => by
  have h' : getK d o m (fun x => fN (Nat.add o 1) fun o => rdT d m o n fun l => c (x :: l)) = res := h
  obtain ⟨x, hx, h'⟩ := getK_inv hr h'
  rw [fN_eq] at h'
  obtain ⟨l, hl, hg, h'⟩ := rdT_inv h'
  refine ⟨x :: l, by simp [hl], fun i hi => ?_, h'⟩
  cases i with
  | zero => simpa using hx
  | succ i =>
   have := hg i (by omega)
   have e : o + (i + 1) = Nat.add o 1 + i := by
    show o + (i + 1) = o + 1 + i
    omega
   rw [e, this]
   rfl
def PutL (d o : Nat) (l : List SV) (m m' : Tr SV) : Prop := ∀ k, tget d k m' = if o ≤ k ∧ k < o + l.length then l[k - o]? else tget d k m
omit hr in
theorem PutL.cons {d o : Nat} {x : SV} {l : List SV} {m m' m'' : Tr SV} (h1 : Put d o x m m') (h2 : PutL d (o + 1) l m' m'') : PutL d o (x :: l) m m'' := fun k => by
 rw [h2 k]
 by_cases hk : k = o
 ·subst hk
  rw [if_neg (by omega), if_pos (by simp), h1.1]
  simp
 ·rw [h1.2 k hk]
  by_cases h : o + 1 ≤ k ∧ k < o + 1 + l.length
  ·rw [if_pos h, if_pos (by simp; omega)]
   have e : k - o = k - (o + 1) + 1 := by omega
   rw [e]
   rfl
  ·rw [if_neg h, if_neg (by simp; omega)]
theorem wrT_inv {d : Nat} : ∀ {l : List SV} {o : Nat} {m : Tr SV} {c : Tr SV → Rs}, wrT d o l m c = res → ∃ m', PutL d o l m m' ∧ (∀ i, i < l.length → (tget d (o + i) m).isSome = true) ∧ c m' = res
 | [], o, m, c, h => ⟨m, fun k => by rw [if_neg (by simp)], fun i hi => absurd hi (Nat.not_lt_zero i), h⟩
 | x :: l, o, m, c, h => by
  have h' : updK d o x m (fun m => fN (Nat.add o 1) fun o => wrT d o l m c) = res := h
  obtain ⟨m', h1, h2, h'⟩ := updK_inv hr h'
  rw [fN_eq] at h'
  obtain ⟨m'', h3, h4, h'⟩ := wrT_inv h'
  refine ⟨m'', PutL.cons h1 h3, fun i hi => ?_, h'⟩
  cases i with
  | zero => exact h2
  | succ i =>
   have := h4 i (by simpa using hi)
   have e : Nat.add o 1 + i = o + (i + 1) := by
    show o + 1 + i = o + (i + 1)
    omega
   rw [e, h1.2 _ (by omega)] at this
   exact this
theorem fillT_inv {d : Nat} : ∀ {l : List SV} {o : Nat} {m : Tr SV} {c : Tr SV → Rs}, fillT d o l m c = res → ∃ m', PutL d o l m m' ∧ c m' = res
 | [], o, m, c, h => ⟨m, fun k => by rw [if_neg (by simp)], h⟩
 | x :: l, o, m, c, h => by
  have h' : setK d o x m (fun m => fN (Nat.add o 1) fun o => fillT d o l m c) = res := h
  obtain ⟨m', h1, h'⟩ := setK_inv hr h'
  rw [fN_eq] at h'
  obtain ⟨m'', h3, h'⟩ := fillT_inv h'
  exact ⟨m'', PutL.cons h1 h3, h'⟩
end
noncomputable def oget (σ : Mem) (id : Nat) : Option Ob := tget dI id σ.h
noncomputable def cget (σ : Mem) (id o : Nat) : Option SV := match oget σ id with
 | some ob => tget ob.d o ob.m
 | none => none
theorem tget_nil {α : Type} (d k : Nat) : tget d k (Tr.nil : Tr α) = none := by
 cases d <;> cases k <;> rfl
section
variable {res : Rs} (hr : res ≠ .no)
include hr
theorem obK_inv {σ : Mem} {id : Nat} {c : Ob → Rs} (h : obK σ id c = res) : ∃ ob, oget σ id = some ob ∧ c ob = res := getK_inv hr h
theorem rdK_inv {σ : Mem} {id o n : Nat} {c : List SV → Rs} (h : rdK σ id o n c = res) : ∃ ob l, oget σ id = some ob ∧ l.length = n ∧ (∀ i, i < n → cget σ id (o + i) = l[i]?) ∧ c l = res := by
 obtain ⟨ob, h1, h⟩ := obK_inv hr h
 obtain ⟨l, h2, h3, h⟩ := rdT_inv hr h
 exact ⟨ob, l, h1, h2, fun i hi => by simp only [cget, h1]; exact h3 i hi, h⟩
theorem wrK_inv {σ : Mem} {id o : Nat} {l : List SV} {c : Mem → Rs} (h : wrK σ id o l c = res) : ∃ ob m' σ', oget σ id = some ob ∧ PutL ob.d o l ob.m m' ∧ (∀ i, i < l.length → (tget ob.d (o + i) ob.m).isSome = true) ∧ (σ'.n = σ.n ∧ σ'.mp = σ.mp) ∧ oget σ' id = some ⟨ob.e, ob.d, ob.n, m'⟩ ∧ (∀ k, k ≠ id → oget σ' k = oget σ k) ∧ c σ' = res := by
 obtain ⟨ob, h1, h⟩ := obK_inv hr h
 obtain ⟨m', h2, h3, h⟩ := wrT_inv hr h
 obtain ⟨t', h4, _, h⟩ := updK_inv hr h
 exact ⟨ob, m', ⟨σ.n, t', σ.mp⟩, h1, h2, h3, ⟨rfl, rfl⟩, h4.1, h4.2, h⟩
theorem addK_inv {σ : Mem} {ob : Ob} {c : Nat → Mem → Rs} (h : addK σ ob c = res) : ∃ σ', (σ'.n = σ.n + 1 ∧ σ'.mp = σ.mp) ∧ oget σ' σ.n = some ob ∧ (∀ k, k ≠ σ.n → oget σ' k = oget σ k) ∧ c σ.n σ' = res := by
 obtain ⟨_, h⟩ := okK_inv h hr
 obtain ⟨t', h2, h⟩ := setK_inv hr h
 rw [fN_eq] at h
 exact ⟨⟨σ.n + 1, t', σ.mp⟩, ⟨rfl, rfl⟩, h2.1, h2.2, h⟩
theorem newK_inv {σ : Mem} {e : TypeId} {l : List SV} {c : Nat → Mem → Rs} (h : newK σ e l c = res) : ∃ ob σ', (σ'.n = σ.n + 1 ∧ σ'.mp = σ.mp) ∧ ob.e = e ∧ ob.n = l.length ∧ (∀ o, tget ob.d o ob.m = l[o]?) ∧ oget σ' σ.n = some ob ∧ (∀ k, k ≠ σ.n → oget σ' k = oget σ k) ∧ c σ.n σ' = res := by
 unfold newK at h
 rw [fN_eq, fN_eq] at h
 obtain ⟨m, h1, h⟩ := fillT_inv hr h
 obtain ⟨σ', h2, h3, h4, h⟩ := addK_inv hr h
 refine ⟨_, σ', h2, rfl, rfl, fun o => ?_, h3, h4, h⟩
 show tget _ o m = _
 rw [h1 o, tget_nil]
 split
 ·simp
 ·rename_i hn
  exact (List.getElem?_eq_none (by omega)).symm
theorem killK_inv {σ : Mem} {id : Nat} {c : Mem → Rs} (h : killK σ id c = res) : ∃ σ', (σ'.n = σ.n ∧ σ'.mp = σ.mp) ∧ oget σ' id = some ⟨0, 0, 0, .nil⟩ ∧ (∀ k, k ≠ id → oget σ' k = oget σ k) ∧ c σ' = res := by
 obtain ⟨t', h1, _, h⟩ := updK_inv hr h
 exact ⟨⟨σ.n, t', σ.mp⟩, ⟨rfl, rfl⟩, h1.1, h1.2, h⟩
end
def alook (t : Nat) : AEnv → Option AV
 | [] => none
 | x :: r => if x.1 = t then some x.2 else alook t r
theorem beq_cases (a b : Nat) : (a = b ∧ Nat.beq a b = true) ∨ (a ≠ b ∧ Nat.beq a b = false) := by
 rcases Nat.decEq a b with h | h
 ·exact .inr ⟨h, by cases hb : Nat.beq a b with
   | false => rfl
   | true => exact absurd (Nat.eq_of_beq_eq_true hb) h⟩
 ·exact .inl ⟨h, by rw [h]; exact Nat.beq_refl b⟩
theorem findK_inv {res : Rs} (hr : res ≠ .no) {t : Nat} {k : AV → Rs} : ∀ {l : AEnv}, findK t l k = res → ∃ a, alook t l = some a ∧ k a = res
 | [], h => absurd h.symm hr
 | x :: r, h => by
  have h' : Bool.rec (motive := fun _ => Rs) (findK t r k) (k x.2) (Nat.beq x.1 t) = res := h
  rcases beq_cases x.1 t with ⟨e, hb⟩ | ⟨e, hb⟩
  ·rw [hb] at h'
   exact ⟨x.2, by simp [alook, e], h'⟩
  ·rw [hb] at h'
   obtain ⟨a, h1, h2⟩ := findK_inv hr (l := r) h'
   exact ⟨a, by simp [alook, e, h1], h2⟩
theorem repK_inv {t : Nat} {v : AV} : ∀ {l : AEnv} {c : AEnv → Rs}, ∃ l', repK t v l c = c l' ∧ ∀ s, alook s l' = if s = t then some v else alook s l
 | [], c => ⟨[(t, v)], rfl, fun s => by
  simp only [alook]
  by_cases h : s = t
  ·rw [if_pos h, if_pos h.symm]
  ·rw [if_neg h, if_neg fun e => h e.symm]⟩
 | x :: r, c => by
  have h' : repK t v (x :: r) c = Bool.rec (motive := fun _ => Rs) (repK t v r fun r => c (x :: r)) (c ((t, v) :: r)) (Nat.beq x.1 t) := rfl
  rcases beq_cases x.1 t with ⟨e, hb⟩ | ⟨e, hb⟩
  ·rw [hb] at h'
   refine ⟨(t, v) :: r, h', fun s => ?_⟩
   simp only [alook]
   by_cases h : s = t
   ·rw [if_pos h, if_pos h.symm]
   ·rw [if_neg h, if_neg fun e => h e.symm, if_neg fun e' => h (e'.symm.trans e)]
  ·rw [hb] at h'
   obtain ⟨l', h1, h2⟩ := repK_inv (t := t) (v := v) (l := r) (c := fun r => c (x :: r))
   refine ⟨x :: l', h'.trans h1, fun s => ?_⟩
   simp only [alook, h2 s]
   by_cases hs : x.1 = s
   ·rw [if_pos hs, if_pos hs, if_neg fun e' => e (hs.trans e')]
   ·rw [if_neg hs, if_neg hs]
end Rn
end Eng
end Go.Proofs.YtpfelapckcojjaaGreatDoor
namespace Go.Proofs.YtpfelapckcojjaaGreatDoor
open Go.RowKit
namespace Eng
namespace Rn
structure At where
 b : Nat
 c : Nat
 z : Nat
abbrev Pl := List At
def uOf (l : List Nat) : Str := l.map UInt8.ofNat
def ucOf (ρ : Pl) (q : Nat) : UInt8 := if q < 256 then UInt8.ofNat q else match ρ[q - 256]? with
 | some p => UInt8.ofNat p.b
 | none => 0
def SR (ρ : Pl) : SV → Value → Prop
 | .n k a, v => v = .int k (Int.ofNat a) ∧ a ≤ maxK k
 | .m k a, v => v = .int k (Int.negSucc a) ∧ a ≤ maxK k ∧ k.signed = true
 | .b x, v => v = .bool x
 | .s l, v => v = .string (su (uOf l)) ∧ (∀ c ∈ l, c < 256) ∧ l.length ≤ maxLen
 | .p0, v => v = .pointer none
 | .p id o, v => ∃ p, ρ[id]? = some p ∧ v = .pointer (some ⟨p.b, o, none⟩)
 | .l0, v => v = .slice none 0 0
 | .l id z j n, v => ∃ p, ρ[id]? = some p ∧ p.z = z ∧ j + n ≤ p.c ∧ p.c ≤ maxLen ∧ v = .slice (some ⟨p.b, j * z, none⟩) n (p.c - j)
 | .lx id z j n c, v => ∃ p, ρ[id]? = some p ∧ n ≤ c ∧ c ≤ maxLen ∧ v = .slice (some ⟨p.b, j * z, none⟩) n c
 | .le id z j a, v => ∃ p, ρ[id]? = some p ∧ p.c ≤ maxLen ∧ v = .slice (if p.c - j = a then some ⟨p.b, j * z, none⟩ else some ⟨p.b, j * z + a * z, none⟩) 0 (p.c - j - a)
 | .u, v => v = undef
 | .fl n, v => v = .float .f64 (fw n) ∧ n ≤ 1099511627776
 | .mp id, v => ∃ p, ρ[id]? = some p ∧ v = .map (some p.b)
 | .i0, v => v = .nilIface
 | .x k id, v => ∃ p, ρ[id]? = some p ∧ v = .int k (Int.ofNat p.b) ∧ p.b ≤ maxK k ∧ k.signed = false
 | .sl l, v => v = .string (su (l.map (ucOf ρ))) ∧ (∀ q ∈ l, q < 256 ∨ ∃ p, ρ[q - 256]? = some p ∧ p.b < 256) ∧ l.length ≤ maxLen
 | .cx a b, v => v = .complex .f64 (fw a) (fw b) ∧ a ≤ 1099511627776 ∧ b ≤ 1099511627776
theorem SR.le_inv {ρ : Pl} {id z j a : Nat} {v : Value} (h : SR ρ (.le id z j a) v) : ∃ A c, v = .slice A 0 c ∧ c ≤ maxLen := by
 obtain ⟨p, _, h1, h2⟩ := h
 exact ⟨_, _, h2, by omega⟩
theorem SR.one {ρ : Pl} {x : SV} {u v : Value} (h : SR ρ x u) (h' : SR ρ x v) : u = v := by
 cases x with
 | n k a => exact h.1.trans h'.1.symm
 | m k a => exact h.1.trans h'.1.symm
 | b q => exact h.trans h'.symm
 | s l => exact h.1.trans h'.1.symm
 | p0 => exact h.trans h'.symm
 | p id o =>
  obtain ⟨p, h1, rfl⟩ := h
  obtain ⟨q, h2, rfl⟩ := h'
  rw [h1] at h2; injection h2 with h2; subst h2; rfl
 | l0 => exact h.trans h'.symm
 | l id z j n =>
  obtain ⟨p, h1, _, _, _, rfl⟩ := h
  obtain ⟨q, h2, _, _, _, rfl⟩ := h'
  rw [h1] at h2; injection h2 with h2; subst h2; rfl
 | lx id z j n c =>
  obtain ⟨p, h1, _, _, rfl⟩ := h
  obtain ⟨q, h2, _, _, rfl⟩ := h'
  rw [h1] at h2; injection h2 with h2; subst h2; rfl
 | le id z j a =>
  obtain ⟨p, h1, _, rfl⟩ := h
  obtain ⟨q, h2, _, rfl⟩ := h'
  rw [h1] at h2; injection h2 with h2; subst h2; rfl
 | u => exact h.trans h'.symm
 | fl n => exact h.1.trans h'.1.symm
 | cx a b => exact h.1.trans h'.1.symm
 | mp id =>
  obtain ⟨p, h1, rfl⟩ := h
  obtain ⟨q, h2, rfl⟩ := h'
  rw [h1] at h2; injection h2 with h2; subst h2; rfl
 | i0 => exact h.trans h'.symm
 | x k id =>
  obtain ⟨p, h1, rfl, _⟩ := h
  obtain ⟨q, h2, rfl, _⟩ := h'
  rw [h1] at h2; injection h2 with h2; subst h2; rfl
 | sl l => exact h.1.trans h'.1.symm
def Up (ρ ρ' : Pl) : Prop := ∀ (id : Nat) p, ρ[id]? = some p → ρ'[id]? = some p
theorem Up.refl (ρ : Pl) : Up ρ ρ := fun _ _ h => h
theorem Up.trans {a b c : Pl} (h : Up a b) (k : Up b c) : Up a c := fun id p e => k id p (h id p e)
theorem Up.snoc (ρ : Pl) (p : At) : Up ρ (ρ ++ [p]) := fun id q h => by
 have hlt : id < ρ.length := (List.getElem?_eq_some_iff.1 h).1
 rw [List.getElem?_append_left hlt]; exact h
theorem ucOf_up {ρ ρ' : Pl} (hu : Up ρ ρ') {q : Nat} (h : q < 256 ∨ ∃ p, ρ[q - 256]? = some p ∧ p.b < 256) : ucOf ρ' q = ucOf ρ q := by
 unfold ucOf
 by_cases hq : q < 256
 ·simp [hq]
 ·obtain ⟨p, h1, _⟩ := h.resolve_left hq
  simp [hq, h1, hu _ _ h1]
theorem SR.up {ρ ρ' : Pl} (hu : Up ρ ρ') {x : SV} {v : Value} (h : SR ρ x v) : SR ρ' x v := by
 cases x with
 | p id o => obtain ⟨p, h1, h2⟩ := h; exact ⟨p, hu _ _ h1, h2⟩
 | l id z j n => obtain ⟨p, h1, h2⟩ := h; exact ⟨p, hu _ _ h1, h2⟩
 | lx id z j n c => obtain ⟨p, h1, h2⟩ := h; exact ⟨p, hu _ _ h1, h2⟩
 | le id z j a => obtain ⟨p, h1, h2⟩ := h; exact ⟨p, hu _ _ h1, h2⟩
 | mp id => obtain ⟨p, h1, h2⟩ := h; exact ⟨p, hu _ _ h1, h2⟩
 | x k id => obtain ⟨p, h1, h2⟩ := h; exact ⟨p, hu _ _ h1, h2⟩
 | sl l =>
  obtain ⟨h1, h2, h3⟩ := h
  refine ⟨?_, fun q hq => (h2 q hq).imp_right fun ⟨p, k1, k2⟩ => ⟨p, hu _ _ k1, k2⟩, h3⟩
  rw [h1, List.map_congr_left fun q hq => (ucOf_up hu (h2 q hq)).symm]
 | _ => exact h
def CR (ρ : Pl) (x : SV) (v : Value) : Prop := nu x = true ∧ SR ρ x v
theorem CR.up {ρ ρ' : Pl} (hu : Up ρ ρ') {x : SV} {v : Value} (h : CR ρ x v) : CR ρ' x v := ⟨h.1, h.2.up hu⟩
theorem CR.cell {ρ : Pl} {x : SV} {v : Value} (h : CR ρ x v) : v.oneCell' = true := by
 obtain ⟨h0, h⟩ := h
 cases x with
 | n k a => rw [h.1]; rfl
 | m k a => rw [h.1]; rfl
 | b q => rw [show v = _ from h]; rfl
 | s l => rw [h.1]; rfl
 | p0 => rw [show v = _ from h]; rfl
 | p id o => obtain ⟨p, _, rfl⟩ := h; rfl
 | l0 => rw [show v = _ from h]; rfl
 | l id z j n => obtain ⟨p, _, _, _, _, rfl⟩ := h; rfl
 | lx id z j n c => obtain ⟨p, _, _, _, rfl⟩ := h; rfl
 | le id z j a => obtain ⟨p, _, _, rfl⟩ := h; rfl
 | u => cases h0
 | fl n => rw [h.1]; rfl
 | cx a b => rw [h.1]; rfl
 | mp id => obtain ⟨p, _, rfl⟩ := h; rfl
 | i0 => rw [show v = _ from h]; rfl
 | x k id => obtain ⟨p, _, rfl, _⟩ := h; rfl
 | sl l => rw [h.1]; rfl
theorem SR.cells {ρ : Pl} {x : SV} {v : Value} (h : SR ρ x v) : v.cells = #[v] := by
 cases x with
 | n k a => rw [h.1]; rfl
 | m k a => rw [h.1]; rfl
 | b q => rw [show v = _ from h]; rfl
 | s l => rw [h.1]; rfl
 | p0 => rw [show v = _ from h]; rfl
 | p id o => obtain ⟨p, _, rfl⟩ := h; rfl
 | l0 => rw [show v = _ from h]; rfl
 | l id z j n => obtain ⟨p, _, _, _, _, rfl⟩ := h; rfl
 | lx id z j n c => obtain ⟨p, _, _, _, rfl⟩ := h; rfl
 | le id z j a => obtain ⟨p, _, _, rfl⟩ := h; rfl
 | u => rw [show v = _ from h]; rfl
 | fl n => rw [h.1]; rfl
 | cx a b => rw [h.1]; rfl
 | mp id => obtain ⟨p, _, rfl⟩ := h; rfl
 | i0 => rw [show v = _ from h]; rfl
 | x k id => obtain ⟨p, _, rfl, _⟩ := h; rfl
 | sl l => rw [h.1]; rfl
inductive SRs (ρ : Pl) : List SV → List Value → Prop where
 | nil : SRs ρ [] []
 | cons {x v l vs} : CR ρ x v → SRs ρ l vs → SRs ρ (x :: l) (v :: vs)
theorem SRs.cells {ρ : Pl} {l : List SV} {vs : List Value} (h : SRs ρ l vs) : ∀ u ∈ vs, u.oneCell' = true := by
 induction h with
 | nil => intro u hu; cases hu
 | cons h1 _ ih =>
  intro u hu
  rcases List.mem_cons.1 hu with rfl | hu
  ·exact h1.cell
  ·exact ih u hu
theorem SRs.up {ρ ρ' : Pl} (hu : Up ρ ρ') {l : List SV} {vs : List Value} (h : SRs ρ l vs) : SRs ρ' l vs := by
 induction h with
 | nil => exact .nil
 | cons h1 _ ih => exact .cons (h1.up hu) ih
theorem SRs.len {ρ : Pl} {l : List SV} {vs : List Value} (h : SRs ρ l vs) : vs.length = l.length := by
 induction h with
 | nil => rfl
 | cons _ _ ih => simp [ih]
theorem SRs.get {ρ : Pl} {l : List SV} {vs : List Value} (h : SRs ρ l vs) : ∀ (i : Nat) x, l[i]? = some x → ∃ v, vs[i]? = some v ∧ CR ρ x v := by
 induction h with
 | nil => intro i x hx; cases hx
 | cons h1 _ ih =>
  intro i x hx
  cases i with
  | zero => injection hx with hx; subst hx; exact ⟨_, rfl, h1⟩
  | succ i => exact ih i x hx
theorem SRs.app {ρ : Pl} {l l' : List SV} {vs vs' : List Value} (h : SRs ρ l vs) (h' : SRs ρ l' vs') : SRs ρ (l ++ l') (vs ++ vs') := by
 induction h with
 | nil => exact h'
 | cons h1 _ ih => exact .cons h1 ih
theorem SRs.take {ρ : Pl} {l : List SV} {vs : List Value} (h : SRs ρ l vs) (n : Nat) : SRs ρ (l.take n) (vs.take n) := by
 induction h generalizing n with
 | nil => simp; exact .nil
 | cons h1 _ ih =>
  cases n with
  | zero => exact .nil
  | succ n => exact .cons h1 (ih n)
theorem SRs.drop {ρ : Pl} {l : List SV} {vs : List Value} (h : SRs ρ l vs) (n : Nat) : SRs ρ (l.drop n) (vs.drop n) := by
 induction h generalizing n with
 | nil => simp; exact .nil
 | cons h1 h2 ih =>
  cases n with
  | zero => exact .cons h1 h2
  | succ n => exact ih n
theorem SRs.of {ρ : Pl} : ∀ {l : List SV} {vs : List Value}, vs.length = l.length → (∀ (i : Nat) x, l[i]? = some x → ∃ v, vs[i]? = some v ∧ CR ρ x v) → SRs ρ l vs
 | [], [], _, _ => .nil
 | [], _ :: _, h, _ => by cases h
 | _ :: _, [], h, _ => by cases h
 | x :: l, v :: vs, hl, h => by
  obtain ⟨v', e, h1⟩ := h 0 x rfl
  injection e with e; subst e
  exact .cons h1 (SRs.of (by simpa using hl) fun i y hy => h (i + 1) y hy)
def TR (ρ : Pl) : TV → Value → Prop
 | .v x, v => SR ρ x v
 | .g l, v => ∃ vs, SRs ρ l vs ∧ v = .agg vs.toArray
inductive TRs (ρ : Pl) : List TV → List Value → Prop where
 | nil : TRs ρ [] []
 | cons {x v l vs} : TR ρ x v → TRs ρ l vs → TRs ρ (x :: l) (v :: vs)
def AR (ρ : Pl) : AV → Value → Prop
 | .v x, v => SR ρ x v
 | .g l, v => ∃ vs, SRs ρ l vs ∧ v = .agg vs.toArray
 | .t l, v => ∃ vs, TRs ρ l vs ∧ v = .tuple vs.toArray
 | .f fn l, v => ∃ vs, SRs ρ l vs ∧ v = .func (.func fn) #[] vs.toArray
theorem TR.up {ρ ρ' : Pl} (hu : Up ρ ρ') {x : TV} {v : Value} (h : TR ρ x v) : TR ρ' x v := by
 cases x with
 | v x => exact SR.up hu h
 | g l => obtain ⟨vs, h1, h2⟩ := h; exact ⟨vs, h1.up hu, h2⟩
theorem TRs.up {ρ ρ' : Pl} (hu : Up ρ ρ') {l : List TV} {vs : List Value} (h : TRs ρ l vs) : TRs ρ' l vs := by
 induction h with
 | nil => exact .nil
 | cons h1 _ ih => exact .cons (h1.up hu) ih
theorem AR.up {ρ ρ' : Pl} (hu : Up ρ ρ') {x : AV} {v : Value} (h : AR ρ x v) : AR ρ' x v := by
 cases x with
 | v x => exact SR.up hu h
 | g l => obtain ⟨vs, h1, h2⟩ := h; exact ⟨vs, h1.up hu, h2⟩
 | t l => obtain ⟨vs, h1, h2⟩ := h; exact ⟨vs, h1.up hu, h2⟩
 | f fn l => obtain ⟨vs, h1, h2⟩ := h; exact ⟨vs, h1.up hu, h2⟩
inductive ARs (ρ : Pl) : List AV → List Value → Prop where
 | nil : ARs ρ [] []
 | cons {x v l vs} : AR ρ x v → ARs ρ l vs → ARs ρ (x :: l) (v :: vs)
theorem ARs.up {ρ ρ' : Pl} (hu : Up ρ ρ') {l : List AV} {vs : List Value} (h : ARs ρ l vs) : ARs ρ' l vs := by
 induction h with
 | nil => exact .nil
 | cons h1 _ ih => exact .cons (h1.up hu) ih
def Bk (w : World) (g : Nat) (t : TypeId) (cs : Array Value) : Prop := ∃ f : Nat × Nat, w.heap[g]? = some (.cells cs t f) ∧ (cs.size ≤ f.1 ∨ f = (0, 0))
theorem Blk.bk {w : World} {g : Nat} {t : TypeId} {cs : Array Value} (h : Blk w g t cs) : Bk w g t cs := ⟨(0, 0), h, .inr rfl⟩
section
variable {w w' : World} {g : Nat} {t : TypeId} {cs : Array Value}
theorem Bk.lt (h : Bk w g t cs) : g < w.heap.size := by
 obtain ⟨f, h, _⟩ := h
 exact (Array.getElem?_eq_some_iff.1 h).1
theorem Bk.cell (h : Bk w g t cs) (i : Nat) : w.cell? ⟨g, i, none⟩ = cs[i]? := by
 obtain ⟨f, h, _⟩ := h
 simp [World.cell?, h]
theorem Bk.frozen (h : Bk w g t cs) {i : Nat} (hi : i < cs.size) : w.frozen? ⟨g, i, none⟩ = false := by
 obtain ⟨f, h, hf⟩ := h
 unfold World.frozen?
 simp only [h]
 rcases hf with hf | hf
 ·have : ¬ f.1 ≤ i := by omega
  simp [this]
 ·simp [hf]
theorem Bk.one {t' : TypeId} {cs' : Array Value} (h : Bk w g t cs) (h' : Bk w g t' cs') : cs = cs' := by
 obtain ⟨f, h, _⟩ := h
 obtain ⟨f', h', _⟩ := h'
 rw [h] at h'
 injection h' with h'
 injection h'
theorem Bk.fr {S : Nat → Prop} (h : Bk w g t cs) (hf : Fr S w w') (hS : ¬ S g) : Bk w' g t cs := by
 have hl := h.lt
 obtain ⟨f, h, h2⟩ := h
 exact ⟨f, (hf.block g hl hS).trans h, h2⟩
theorem Bk.ext (h : Bk w g t cs) (hf : Ext w w') : Bk w' g t cs := h.fr hf fun hh => hh
end
def TabI (S : Nat → Prop) (w : World) : Prop := ∀ g, Tryz.prog.globalNamed "internal/strconv.uint64pow10" = some g → g < w.heap.size ∧ ¬ S g ∧ Lib.TabIs Tryz.prog w "internal/strconv.uint64pow10" .u64 Lib.pow10Tab
theorem TabI.of {S S' : Nat → Prop} {w w' : World} (h : TabI S w) (hF : Fr S w w') (hs : ∀ b, S' b → w.heap.size ≤ b ∨ S b) : TabI S' w' := fun g hg => by
 obtain ⟨h1, h2, h3⟩ := h g hg
 refine ⟨Nat.lt_of_lt_of_le h1 hF.size, fun hh => (hs g hh).elim (fun hk => absurd hk (Nat.not_le.2 h1)) h2, ?_⟩
 unfold Lib.TabIs at h3 ⊢
 rw [← h3]
 unfold World.var?
 rw [hg]
 simp only [Option.bind_some, hF.block g h1 h2]
theorem TabI.none {S : Nat → Prop} {w : World} (h : Tryz.prog.globalNamed "internal/strconv.uint64pow10" = .none) : TabI S w := fun g hg => by rw [h] at hg; cases hg
theorem TabI.init {w : World} (h : Lib.TabIs Tryz.prog w "internal/strconv.uint64pow10" .u64 Lib.pow10Tab) : TabI noneB w := fun g hg => by
 refine ⟨?_, fun hh => hh, h⟩
 rcases Nat.lt_or_ge g w.heap.size with hh | hh
 ·exact hh
 ·unfold Lib.TabIs World.var? at h
  rw [hg] at h
  simp only [Option.bind_some, Array.getElem?_eq_none hh] at h
  cases h
structure Fm where
 S : Nat → Prop
 w : World
 ok : TabI S w
def Fm.may (F : Fm) (b : Nat) : Prop := F.w.heap.size ≤ b ∨ F.S b
theorem asL_cons {α : Type} {k i : Nat} {x : α} {l : List (Nat × α)} : asL k ((i, x) :: l) = if i = k then some x else asL k l := by
 show Bool.rec (motive := fun _ => Option α) (asL k l) (some x) (Nat.beq i k) = _
 rcases beq_cases i k with ⟨h1, h2⟩ | ⟨h1, h2⟩
 ·rw [h2, if_pos h1]
 ·rw [h2, if_neg h1]
def ints (l : List (Nat × Nat)) : List (Int × Int) := l.map fun q => ((q.1 : Int), (q.2 : Int))
def Mps (w0 : Fm) (ρ : Pl) (mp : List (Nat × List (Nat × Nat))) (w : World) : Prop := (∀ id l, asL id mp = some l → ∃ p, ρ[id]? = some p ∧ MpB w p.b (ints l) ∧ w0.may p.b) ∧ ∀ id id' l l' p p', id ≠ id' → asL id mp = some l → asL id' mp = some l' → ρ[id]? = some p → ρ[id']? = some p' → p.b ≠ p'.b
theorem Mps.nil (w0 : Fm) (ρ : Pl) (w : World) : Mps w0 ρ [] w := ⟨fun id l h => (by cases h), fun id id' l l' p p' _ h => (by cases h)⟩
theorem Mps.to {w0 w0' : Fm} {ρ ρ' : Pl} {mp : List (Nat × List (Nat × Nat))} {w w' : World} (h : Mps w0 ρ mp w) (hu : Up ρ ρ') (hm : ∀ b l, MpB w b l → MpB w' b l) (hw : ∀ b l, MpB w b l → w0.may b → w0'.may b) : Mps w0' ρ' mp w' := by
 have old : ∀ id l p, asL id mp = some l → ρ'[id]? = some p → ρ[id]? = some p := fun id l p h1 h2 => by
  obtain ⟨q, h3, _⟩ := h.1 id l h1
  have := hu _ _ h3
  rw [h2] at this
  rw [h3, Option.some.inj this]
 refine ⟨fun id l h1 => ?_, fun id id' l l' p p' hne h1 h2 h3 h4 => h.2 id id' l l' p p' hne h1 h2 (old _ _ _ h1 h3) (old _ _ _ h2 h4)⟩
 obtain ⟨p, h2, h3, h4⟩ := h.1 id l h1
 exact ⟨p, hu _ _ h2, hm _ _ h3, hw _ _ h3 h4⟩
theorem Bk.no_map {w : World} {g : Nat} {t : TypeId} {cs : Array Value} {l : List (Int × Int)} (h : Bk w g t cs) (h' : MpB w g l) : False := by
 obtain ⟨f, h1, _⟩ := h
 obtain ⟨es, clock, h2, _⟩ := h'
 rw [h1] at h2
 cases h2
structure MR (w0 : Fm) (ρ : Pl) (σ : Mem) (w : World) : Prop where
 len : ρ.length = σ.n
 blk : ∀ id ob, oget σ id = some ob → (∃ o, (tget ob.d o ob.m).isSome = true) → ∃ p cs, ρ[id]? = some p ∧ Bk w p.b ob.e cs ∧ p.c * p.z = cs.size ∧ (∀ o x, tget ob.d o ob.m = some x → ∃ v, cs[o]? = some v ∧ CR ρ x v)
 old : Fr w0.S w0.w w
 far : ∀ id o p, (cget σ id o).isSome = true → ρ[id]? = some p → w0.may p.b
 pre : ∀ id ob, oget σ id = some ob → ∀ o, ob.n ≤ o → tget ob.d o ob.m = none
 apart : ∀ id id' o o' p p', id ≠ id' → (cget σ id o).isSome = true → (cget σ id' o').isSome = true → ρ[id]? = some p → ρ[id']? = some p' → p.b ≠ p'.b
 mps : Mps w0 ρ σ.mp w
noncomputable def elk (m : Nat) (e : En) (t : Nat) : Option AV := match kept m t with
 | true => alook t e.vs
 | false => alook t e.ts
def ER (m : Nat) (ρ : Pl) (e : En) (env : Env) : Prop := ∀ t a, elk m e t = some a → ∃ v, look env t = some v ∧ AR ρ a v
theorem ER.up {m : Nat} {ρ ρ' : Pl} {e : En} {env : Env} (hu : Up ρ ρ') (h : ER m ρ e env) : ER m ρ' e env := fun t a ha => by
 obtain ⟨v, h1, h2⟩ := h t a ha
 exact ⟨v, h1, h2.up hu⟩
end Rn
end Eng
end Go.Proofs.YtpfelapckcojjaaGreatDoor
namespace Go.Proofs.YtpfelapckcojjaaGreatDoor
open Go.RowKit
namespace Eng
namespace Rn
theorem cget_iff {σ : Mem} {id o : Nat} {x : SV} : cget σ id o = some x ↔ ∃ ob, oget σ id = some ob ∧ tget ob.d o ob.m = some x := by
 unfold cget
 constructor
 ·intro h
  split at h
  ·rename_i ob hob; exact ⟨ob, hob, h⟩
  ·cases h
 ·rintro ⟨ob, h1, h2⟩
  rw [h1]; exact h2
theorem MR.at_ {ρ : Pl} {σ : Mem} {w0 : Fm} {w : World} (h : MR w0 ρ σ w) {id o : Nat} {x : SV} (hx : cget σ id o = some x) : ∃ p ob cs v, ρ[id]? = some p ∧ oget σ id = some ob ∧ Bk w p.b ob.e cs ∧ p.c * p.z = cs.size ∧ cs[o]? = some v ∧ CR ρ x v := by
 obtain ⟨ob, h1, h2⟩ := cget_iff.1 hx
 obtain ⟨p, cs, h3, h4, h6, h5⟩ := h.blk id ob h1 ⟨o, by rw [h2]; rfl⟩
 obtain ⟨v, h7, h8⟩ := h5 o x h2
 exact ⟨p, ob, cs, v, h3, h1, h4, h6, h7, h8⟩
theorem MR.cell {ρ : Pl} {σ : Mem} {w0 : Fm} {w : World} (h : MR w0 ρ σ w) {id o : Nat} {x : SV} (hx : cget σ id o = some x) {p : At} (hp : ρ[id]? = some p) : ∃ v, w.cell? ⟨p.b, o, none⟩ = some v ∧ CR ρ x v ∧ w.frozen? ⟨p.b, o, none⟩ = false := by
 obtain ⟨q, ob, cs, v, h1, _, h2, _, h3, h4⟩ := h.at_ hx
 rw [hp] at h1; injection h1 with h1; subst h1
 exact ⟨v, by rw [h2.cell, h3], h4, h2.frozen (Array.getElem?_eq_some_iff.1 h3).1⟩
theorem MR.ext {ρ : Pl} {σ : Mem} {w0 : Fm} {w w' : World} (h : MR w0 ρ σ w) (hE : Ext w w') : MR w0 ρ σ w' where
 len := h.len
 blk := fun id ob h1 h2 => by
  obtain ⟨p, cs, h3, h4, h5⟩ := h.blk id ob h1 h2
  exact ⟨p, cs, h3, h4.ext hE, h5⟩
 old := h.old.te hE
 far := h.far
 pre := h.pre
 apart := h.apart
 mps := h.mps.to (Up.refl ρ) (fun _ _ hb => hb.ext hE) fun _ _ _ hb => hb
theorem MR.as {w0 : Fm} {ρ : Pl} {σ : Mem} {w w' : World} {b : Nat} (h : MR w0 ρ σ w) (hF : Fr (fun k => k = b) w w') (h0 : w0.may b) (hb : ∀ g t cs, Bk w g t cs → Bk w' g t cs) (hm : ∀ g l, MpB w g l → MpB w' g l) : MR w0 ρ σ w' where
 len := h.len
 blk := fun id ob h1 h2 => by
  obtain ⟨p, cs, h3, h4, h5⟩ := h.blk id ob h1 h2
  exact ⟨p, cs, h3, hb _ _ _ h4, h5⟩
 old := h.old.trans hF fun j hj hh => by
  have hh : j = b := hh
  subst hh
  exact h0.resolve_left (by omega)
 far := h.far
 pre := h.pre
 apart := h.apart
 mps := h.mps.to (Up.refl ρ) hm fun _ _ _ hb => hb
theorem MR.below {ρ : Pl} {σ : Mem} {w0 : Fm} {w : World} (h : MR w0 ρ σ w) (id o : Nat) (p : At) (hs : (cget σ id o).isSome = true) (hp : ρ[id]? = some p) : p.b < w.heap.size := by
 obtain ⟨x, hx⟩ := Option.isSome_iff_exists.1 hs
 obtain ⟨q, _, _, _, h1, _, h2, _⟩ := h.at_ hx
 rw [hp] at h1; injection h1 with h1; subst h1
 exact h2.lt
theorem MR.more {ρ : Pl} {σ σ' : Mem} {w0 : Fm} {w w' : World} {S : Nat → Prop} {e : TypeId} {cs : Array Value} {ob : Ob} {g : Nat} (h : MR w0 ρ σ w) (c z : Nat) (hcz : c * z = cs.size) (hn : σ'.n = σ.n + 1 ∧ σ'.mp = σ.mp) (he : ob.e = e) (hpre : ∀ o, ob.n ≤ o → tget ob.d o ob.m = none) (ht : ∀ o x, tget ob.d o ob.m = some x → ∃ v, cs[o]? = some v ∧ CR ρ x v) (hob : oget σ' σ.n = some ob) (hk : ∀ k, k ≠ σ.n → oget σ' k = oget σ k)
  (hB : Bk w' g e cs) (hF : Fr S w w') (hg : ∀ id o p, (cget σ id o).isSome = true → ρ[id]? = some p → p.b ≠ g ∧ ¬ S p.b) (hS0 : ∀ b, S b → w0.may b) (hg0 : w0.may g) (hSm : ∀ b l, MpB w b l → ¬ S b := by intro b l _ hh; exact hh) : MR w0 (ρ ++ [⟨g, c, z⟩]) σ' w' := by
 have hu := Up.snoc ρ ⟨g, c, z⟩
 have hlast : (ρ ++ [(⟨g, c, z⟩ : At)])[σ.n]? = some ⟨g, c, z⟩ := by rw [← h.len]; simp
 have hold : ∀ id o p, id ≠ σ.n → (cget σ' id o).isSome = true → (ρ ++ [(⟨g, c, z⟩ : At)])[id]? = some p → (cget σ id o).isSome = true ∧ ρ[id]? = some p ∧ p.b ≠ g := fun id o p hne hs hp => by
  have e1 : cget σ' id o = cget σ id o := by unfold cget; rw [hk id hne]
  rw [e1] at hs
  obtain ⟨x, hx⟩ := Option.isSome_iff_exists.1 hs
  obtain ⟨q, ob', cs, v, h1, _⟩ := h.at_ hx
  have := hu _ _ h1
  rw [hp] at this
  injection this with this; subst this
  exact ⟨hs, h1, (hg id o p hs h1).1⟩
 refine ⟨by simp [h.len, hn.1], fun id ob' h1 h2 => ?_, h.old.trans hF fun j hj hh => (hS0 j hh).resolve_left (by omega), fun id o p hs hp => ?_, fun id ob' h1 => ?_, fun id id' o o' p p' hne hs hs' hp hp' => ?_, by rw [hn.2]; exact h.mps.to hu (fun b l hb => hb.fr hF (hSm b l hb)) fun _ _ _ hb => hb⟩
 ·by_cases hid : id = σ.n
  ·subst hid
   rw [hob] at h1; injection h1 with h1; subst h1
   refine ⟨_, _, hlast, by rw [he]; exact hB, hcz, fun o x hx => ?_⟩
   obtain ⟨v, h3, h4⟩ := ht o x hx
   exact ⟨v, h3, h4.up hu⟩
  ·rw [hk id hid] at h1
   obtain ⟨p, cs, h3, h4, h6, h5⟩ := h.blk id ob' h1 h2
   obtain ⟨o, ho⟩ := h2
   refine ⟨p, cs, hu _ _ h3, h4.fr hF (hg id o p (by unfold cget; rw [h1]; exact ho) h3).2, h6, fun o x hx => ?_⟩
   obtain ⟨v, h7, h8⟩ := h5 o x hx
   exact ⟨v, h7, h8.up hu⟩
 ·by_cases hid : id = σ.n
  ·subst hid
   rw [hlast] at hp; injection hp with hp; subst hp
   exact hg0
  ·obtain ⟨a1, a2, _⟩ := hold id o p hid hs hp
   exact h.far id o p a1 a2
 ·by_cases hid : id = σ.n
  ·subst hid
   rw [hob] at h1; injection h1 with h1; subst h1
   exact hpre
  ·rw [hk id hid] at h1
   exact h.pre id ob' h1
 ·by_cases h1 : id = σ.n
  ·subst h1
   obtain ⟨_, _, h4⟩ := hold id' o' p' (fun e => hne e.symm) hs' hp'
   rw [hlast] at hp; injection hp with hp; subst hp
   exact fun e => h4 e.symm
  ·by_cases h2 : id' = σ.n
   ·subst h2
    obtain ⟨_, _, h4⟩ := hold id o p h1 hs hp
    rw [hlast] at hp'; injection hp' with hp'; subst hp'
    exact h4
   ·obtain ⟨a1, a2, _⟩ := hold id o p h1 hs hp
    obtain ⟨b1, b2, _⟩ := hold id' o' p' h2 hs' hp'
    exact h.apart id id' o o' p p' hne a1 b1 a2 b2
theorem MR.new {ρ : Pl} {σ σ' : Mem} {w0 : Fm} {w w' : World} {e : TypeId} {l : List SV} {vs : List Value} {cs : Array Value} {ob : Ob} (h : MR w0 ρ σ w) (c z : Nat) (hcz : c * z = cs.size) (hn : σ'.n = σ.n + 1 ∧ σ'.mp = σ.mp) (he : ob.e = e) (hq : ob.n = l.length) (ht : ∀ o, tget ob.d o ob.m = l[o]?) (hob : oget σ' σ.n = some ob) (hk : ∀ k, k ≠ σ.n → oget σ' k = oget σ k)
  (hB : Bk w' w.heap.size e cs) (hcs : ∀ (o : Nat) v, vs[o]? = some v → cs[o]? = some v) (hE : Ext w w') (hl : SRs ρ l vs) : MR w0 (ρ ++ [⟨w.heap.size, c, z⟩]) σ' w' :=
 h.more c z hcz hn he (fun o ho => by rw [ht o]; exact List.getElem?_eq_none (by omega)) (fun o x hx => by
  rw [ht o] at hx
  obtain ⟨v, h3, h4⟩ := hl.get o x hx
  exact ⟨v, hcs o v h3, h4⟩) hob hk hB hE (fun id o p hs hp => ⟨Nat.ne_of_lt (h.below id o p hs hp), fun hh => hh⟩) (fun b hh => hh.elim) (.inl h.old.size)
theorem PutL.mem {d o : Nat} {l : List SV} {m m' : Tr SV} (h : PutL d o l m m') (hs : ∀ i, i < l.length → (tget d (o + i) m).isSome = true) (k : Nat) (hk : (tget d k m').isSome = true) : (tget d k m).isSome = true := by
 rw [h k] at hk
 split at hk
 ·rename_i hh
  have := hs (k - o) (by omega)
  rwa [show o + (k - o) = k by omega] at this
 ·exact hk
theorem MR.wr {ρ : Pl} {σ σ' : Mem} {w0 : Fm} {w w' : World} {id o : Nat} {l : List SV} {vs : List Value} {ob : Ob} {m' : Tr SV} {p : At} {cs cs' : Array Value} (h : MR w0 ρ σ w) (hob : oget σ id = some ob) (hp : PutL ob.d o l ob.m m') (hs : ∀ i, i < l.length → (tget ob.d (o + i) ob.m).isSome = true) (hn : σ'.n = σ.n ∧ σ'.mp = σ.mp) (hob' : oget σ' id = some ⟨ob.e, ob.d, ob.n, m'⟩) (hk : ∀ k, k ≠ id → oget σ' k = oget σ k)
  (hat : ρ[id]? = some p) (hB : Bk w p.b ob.e cs) (hB' : Bk w' p.b ob.e cs') (hsz : cs'.size = cs.size) (hc : ∀ k, cs'[k]? = if o ≤ k ∧ k < o + l.length then vs[k - o]? else cs[k]?) (hF : Fr (fun b => b = p.b) w w') (hl : SRs ρ l vs) (hne : 0 < l.length) : MR w0 ρ σ' w' := by
 have h0 : (cget σ id o).isSome = true := by
  have := hs 0 hne
  unfold cget
  rw [hob]
  simpa using this
 have back : ∀ i k, (cget σ' i k).isSome = true → (cget σ i k).isSome = true := fun i k hh => by
  by_cases hi : i = id
  ·subst hi
   unfold cget at hh ⊢
   rw [hob'] at hh
   rw [hob]
   exact hp.mem hs k hh
  ·unfold cget at hh ⊢
   rw [hk i hi] at hh
   exact hh
 refine ⟨h.len.trans hn.1.symm, fun i ob' h1 h2 => ?_, h.old.trans hF fun j hj hh => (by
  have hh : j = p.b := hh
  subst hh
  exact (h.far id o p h0 hat).resolve_left (by omega)), fun i k q hs hq => h.far i k q (back i k hs) hq, fun i ob' h1 k hk0 => ?_, fun i i' k k' q q' hne' a1 a2 a3 a4 => h.apart i i' k k' q q' hne' (back i k a1) (back i' k' a2) a3 a4, by rw [hn.2]; exact h.mps.to (Up.refl ρ) (fun b l hb => hb.fr hF fun e => hB.no_map (e ▸ hb)) fun _ _ _ hb => hb⟩
 case refine_2 =>
  by_cases hi : i = id
  ·subst hi
   rw [hob'] at h1; injection h1 with h1; subst h1
   show tget ob.d k m' = none
   cases hh : tget ob.d k m' with
   | none => rfl
   | some x =>
    have := hp.mem hs k (by rw [hh]; rfl)
    rw [h.pre i ob hob k hk0] at this
    cases this
  ·rw [hk i hi] at h1
   exact h.pre i ob' h1 k hk0
 by_cases hi : i = id
 ·subst hi
  rw [hob'] at h1; injection h1 with h1; subst h1
  obtain ⟨k0, hk0⟩ := h2
  have hk0' := hp.mem hs k0 hk0
  obtain ⟨p2, cs2, b1, b2, b4, b3⟩ := h.blk i ob hob ⟨k0, hk0'⟩
  rw [hat] at b1; injection b1 with b1; subst b1
  have e := b2.one hB
  subst e
  refine ⟨p, cs', hat, hB', by rw [hsz]; exact b4, fun k x hx => ?_⟩
  have hx' := hp k
  rw [show tget ob.d k m' = some x from hx] at hx'
  rw [hc k]
  split at hx'
  ·rename_i hh
   rw [if_pos hh]
   exact hl.get _ _ hx'.symm
  ·rename_i hh
   rw [if_neg hh]
   exact b3 k x hx'.symm
 ·rw [hk i hi] at h1
  obtain ⟨q, cs2, b1, b2, b3⟩ := h.blk i ob' h1 h2
  obtain ⟨k, hk2⟩ := h2
  have hne2 : q.b ≠ p.b := h.apart i id k o q p hi (by unfold cget; rw [h1]; exact hk2) h0 b1 hat
  exact ⟨q, cs2, b1, b2.fr hF hne2, b3⟩
theorem MR.kill {ρ : Pl} {σ σ' : Mem} {w0 : Fm} {w : World} {id o : Nat} {p : At} (h : MR w0 ρ σ w) (hn : σ'.n = σ.n ∧ σ'.mp = σ.mp) (hob' : oget σ' id = some ⟨0, 0, 0, .nil⟩) (hk : ∀ k, k ≠ id → oget σ' k = oget σ k) (hat : ρ[id]? = some p) (h0 : (cget σ id o).isSome = true) : MR w0 ρ σ' w ∧ ∀ i k q, (cget σ' i k).isSome = true → ρ[i]? = some q → q.b ≠ p.b := by
 have back : ∀ i k, (cget σ' i k).isSome = true → i ≠ id ∧ (cget σ i k).isSome = true := fun i k hh => by
  by_cases hi : i = id
  ·subst hi
   unfold cget at hh
   rw [hob'] at hh
   have hh' : (tget 0 k (Tr.nil : Tr SV)).isSome = true := hh
   rw [tget_nil] at hh'
   cases hh'
  ·unfold cget at hh ⊢
   rw [hk i hi] at hh
   exact ⟨hi, hh⟩
 refine ⟨⟨h.len.trans hn.1.symm, fun i ob' h1 h2 => ?_, h.old, fun i k q hs hq => h.far i k q (back i k hs).2 hq, fun i ob' h1 k hk0 => ?_, fun i i' k k' q q' hne' a1 a2 a3 a4 => h.apart i i' k k' q q' hne' (back i k a1).2 (back i' k' a2).2 a3 a4, by rw [hn.2]; exact h.mps⟩, fun i k q hs hq => ?_⟩
 ·obtain ⟨k, hk2⟩ := h2
  obtain ⟨hi, _⟩ := back i k (by unfold cget; rw [h1]; exact hk2)
  rw [hk i hi] at h1
  exact h.blk i ob' h1 ⟨k, hk2⟩
 ·by_cases hi : i = id
  ·subst hi
   rw [hob'] at h1; injection h1 with h1; subst h1
   exact tget_nil _ _
  ·rw [hk i hi] at h1
   exact h.pre i ob' h1 k hk0
 ·obtain ⟨hi, hs⟩ := back i k hs
  exact h.apart i id k o q p hi hs h0 hq hat
end Rn
end Eng
end Go.Proofs.YtpfelapckcojjaaGreatDoor
namespace Go.Proofs.YtpfelapckcojjaaGreatDoor
open Go.RowKit
namespace Eng
namespace Rn
section
variable {res : Rs} (hr : res ≠ .no)
include hr
theorem gtT_inv {m t : Nat} {e : En} {k : AV → Rs} (h : (gtT m t).f e k = res) : ∃ a, elk m e t = some a ∧ k a = res := by
 unfold gtT at h
 unfold elk
 cases hk : kept m t with
 | true => rw [hk] at h; exact findK_inv hr h
 | false => rw [hk] at h; exact findK_inv hr h
theorem onN_inv {x : AV} {f : IntKind → Nat → Rs} (h : onN x f = res) : ∃ k a, x = .v (.n k a) ∧ f k a = res := by
 cases x with
 | v x => cases x <;> first | exact ⟨_, _, rfl, h⟩ | exact absurd h.symm hr
 | _ => exact absurd h.symm hr
theorem onB_inv {x : AV} {a b : Rs} (h : onB x a b = res) : (x = .v (.b true) ∧ a = res) ∨ (x = .v (.b false) ∧ b = res) := by
 cases x with
 | v x =>
  cases x with
  | b q =>
   cases q with
   | true => exact .inl ⟨rfl, h⟩
   | false => exact .inr ⟨rfl, h⟩
  | _ => exact absurd h.symm hr
 | _ => exact absurd h.symm hr
theorem onS_inv {x : AV} {f : List Nat → Rs} (h : onS x f = res) : ∃ l, x = .v (.s l) ∧ f l = res := by
 cases x with
 | v x => cases x <;> first | exact ⟨_, rfl, h⟩ | exact absurd h.symm hr
 | _ => exact absurd h.symm hr
theorem onP_inv {x : AV} {f : Nat → Nat → Rs} (h : onP x f = res) : ∃ id o, x = .v (.p id o) ∧ f id o = res := by
 cases x with
 | v x => cases x <;> first | exact ⟨_, _, rfl, h⟩ | exact absurd h.symm hr
 | _ => exact absurd h.symm hr
theorem onG_inv {x : AV} {f : List SV → Rs} (h : onG x f = res) : ∃ l, x = .g l ∧ f l = res := by
 cases x <;> first | exact ⟨_, rfl, h⟩ | exact absurd h.symm hr
theorem onT_inv {x : AV} {f : List TV → Rs} (h : onT x f = res) : ∃ l, x = .t l ∧ f l = res := by
 cases x <;> first | exact ⟨_, rfl, h⟩ | exact absurd h.symm hr
theorem onF_inv {x : AV} {f : Nat → List SV → Rs} (h : onF x f = res) : ∃ g l, x = .f g l ∧ f g l = res := by
 cases x <;> first | exact ⟨_, _, rfl, h⟩ | exact absurd h.symm hr
theorem onV_inv {x : AV} {f : SV → Rs} {g : List SV → Rs} (h : onV x f g = res) : (∃ y, x = .v y ∧ f y = res) ∨ ∃ l, x = .g l ∧ g l = res := by
 cases x with
 | v y => exact .inl ⟨y, rfl, h⟩
 | g l => exact .inr ⟨l, rfl, h⟩
 | _ => exact absurd h.symm hr
theorem onI_inv {x : AV} {f : IntKind → Int → Rs} (h : onI x f = res) : (∃ k a, x = .v (.n k a) ∧ f k (.ofNat a) = res) ∨ ∃ k a, x = .v (.m k a) ∧ f k (.negSucc a) = res := by
 cases x with
 | v x => cases x <;> first | exact .inl ⟨_, _, rfl, h⟩ | exact .inr ⟨_, _, rfl, h⟩ | exact absurd h.symm hr
 | _ => exact absurd h.symm hr
end
theorem fwB_eq {n : Nat} (h : n ≤ 1099511627776) : fwB n = fw n := by
 cases n with
 | zero => rw [fw_zero]; rfl
 | succ n =>
  rw [fw_pos (by omega) (by omega)]
  rfl
theorem onE_inv {res : Rs} (hr : res ≠ .no) {x : AV} {f : Nat → Rs} (h : onE x f = res) : ∃ a, x = .v (.fl a) ∧ f a = res := by
 cases x with
 | v x => cases x <;> first | exact ⟨_, rfl, h⟩ | exact absurd h.symm hr
 | _ => exact absurd h.symm hr
theorem onX_inv {res : Rs} (hr : res ≠ .no) {x : AV} {f : Nat → Nat → Rs} (h : onX x f = res) : ∃ a b, x = .v (.cx a b) ∧ f a b = res := by
 cases x with
 | v x => cases x <;> first | exact ⟨_, _, rfl, h⟩ | exact absurd h.symm hr
 | _ => exact absurd h.symm hr
theorem onJ_inv {res : Rs} (hr : res ≠ .no) {x : AV} {f : Rs} (h : onJ x f = res) : x = .v .i0 ∧ f = res := by
 cases x with
 | v x => cases x <;> first | exact ⟨rfl, h⟩ | exact absurd h.symm hr
 | _ => exact absurd h.symm hr
theorem cS_sound {ρ : Pl} {v : Value} {x : SV} (h : cS v = some x) : SR ρ x v := by
 unfold cS at h
 split at h
 ·injection h with h; subst h; rfl
 ·split at h
  ·rename_i hb; injection h with h; subst h; exact ⟨rfl, Nat.le_of_ble_eq_true hb⟩
  ·cases h
 ·split at h
  ·rename_i hb; injection h with h; subst h
   rw [Bool.and_eq_true] at hb
   exact ⟨rfl, Nat.le_of_ble_eq_true hb.2, hb.1⟩
  ·cases h
 ·split at h
  ·rename_i hb; injection h with h; subst h
   refine ⟨?_, ?_, by simpa using Nat.le_of_ble_eq_true hb⟩
   ·rename_i s _
    obtain ⟨l, rfl⟩ := su_of s
    have e : l.map (UInt8.ofNat ∘ UInt8.toNat) = l := by
     rw [show (UInt8.ofNat ∘ UInt8.toNat) = id from funext fun u => UInt8.ofNat_toNat]
     simp
    simp [uOf, su, e]
   ·intro c hc
    simp only [List.mem_map] at hc
    obtain ⟨u, _, rfl⟩ := hc
    exact u.toNat_lt
  ·cases h
 ·injection h with h; subst h; rfl
 ·split at h
  ·rename_i hb
   injection h with h; subst h
   rw [Bool.and_eq_true] at hb
   have hb1 := Nat.le_of_ble_eq_true hb.1
   have hb2 := Nat.eq_of_beq_eq_true hb.2
   refine ⟨?_, hb1⟩
   rw [← fwB_eq hb1, hb2]
  ·cases h
 ·injection h with h; subst h; rfl
 ·injection h with h; subst h; exact ⟨rfl, by decide, by decide⟩
 ·injection h with h; subst h; rfl
 ·cases h
theorem cS_nu {v : Value} {x : SV} (h : cS v = some x) : nu x = true := by
 unfold cS at h
 split at h <;> first | (injection h with h; subst h; rfl) | (split at h <;> first | (injection h with h; subst h; rfl) | cases h) | cases h
theorem cL_sound {ρ : Pl} : ∀ {l : List Value} {r : List SV}, cL l = some r → SRs ρ r l
 | [], r, h => by injection h with h; subst h; exact .nil
 | v :: l, r, h => by
  have h' : (match cS v, cL l with
   | some a, some r => some (a :: r)
   | _, _ => none) = some r := h
  split at h'
  ·rename_i a r' h1 h2; injection h' with h'; subst h'
   exact .cons ⟨cS_nu h1, cS_sound h1⟩ (cL_sound h2)
  ·cases h'
theorem cA_sound {ρ : Pl} {v : Value} {a : AV} (h : cA v = some a) : AR ρ a v := by
 unfold cA at h
 split at h
 ·rename_i cs
  split at h
  ·rename_i l hl; injection h with h; subst h
   exact ⟨cs.toList, cL_sound hl, by simp⟩
  ·cases h
 ·split at h
  ·rename_i x hx; injection h with h; subst h
   exact cS_sound hx
  ·cases h
section
variable {res : Rs} (hr : res ≠ .no)
include hr
theorem gtC_inv {a : AV} {e : En} {k : AV → Rs} (h : (gtC a).f e k = res) : k a = res := by
 unfold gtC at h
 cases a with
 | v x =>
  have h' : (cV x fun x => (⟨fun _ k => k (.v x)⟩ : Wg)).f e k = res := h
  rw [cV_eq] at h'
  exact h'
 | g l =>
  have h' : (cVs l fun l => (⟨fun _ k => k (.g l)⟩ : Wg)).f e k = res := h
  rw [cVs_eq] at h'
  exact h'
 | _ => exact absurd h.symm hr
theorem gtW_inv {m : Nat} {x : Operand} {e : En} {k : AV → Rs} {ρ : Pl} {env : Env} (hE : ER m ρ e env) (h : (gtW m x).f e k = res) : ∃ a v, evo env x = some v ∧ AR ρ a v ∧ k a = res := by
 unfold gtW at h
 cases x with
 | tmp t =>
  obtain ⟨a, h1, h2⟩ := gtT_inv hr h
  obtain ⟨v, h3, h4⟩ := hE t a h1
  exact ⟨a, v, h3, h4, h2⟩
 | const v =>
  cases ha : cA v with
  | none =>
   have h' : (match cA v with
    | some a => gtC a
    | none => noG).f e k = res := h
   rw [ha] at h'
   exact absurd h'.symm hr
  | some a =>
   have h' : (match cA v with
    | some a => gtC a
    | none => noG).f e k = res := h
   rw [ha] at h'
   exact ⟨a, v, rfl, cA_sound ha, gtC_inv hr h'⟩
 | global g => exact absurd h.symm hr
 | func f => exact ⟨.f f [], _, rfl, ⟨[], .nil, rfl⟩, h⟩
end
end Rn
end Eng
end Go.Proofs.YtpfelapckcojjaaGreatDoor
namespace Go.Proofs.YtpfelapckcojjaaGreatDoor
open Go.RowKit
namespace Eng
namespace Rn
def Good (w0 : Fm) (ρ : Pl) (c : Kt) (res : Rs) (env : Env) (dst : Option Tmp) : Env → World → Prop := fun env' w' => ∃ v σ' ρ' val, c v σ' = res ∧ Up ρ ρ' ∧ AR ρ' v val ∧ MR w0 ρ' σ' w' ∧ env' = Eng.put env dst val
section
variable {m : Nat} {ih : Cl} {e : En} {σ : Mem} {c : Kt} {res : Rs} {ρ : Pl} {env : Env} {w0 : Fm} {w : World} {full : Array Oper} {d : Tmp} {ty : TypeId} {pos : String} {af : Array Edge} (hr : res ≠ .no) (hE : ER m ρ e env) (hM : MR w0 ρ σ w)
include hr hE hM
theorem s_move {x : Operand} (h : (opW m (.move x)).f ih e σ c = res) : xs Tryz.prog isI isS [] Eng.noH full (Good w0 ρ c res env (some d)) [⟨some d, .move x, ty, pos, af, none⟩] env w := by
 obtain ⟨a, v, h1, h2, h3⟩ := gtW_inv hr hE h
 exact xmv h1 ⟨a, σ, ρ, v, h3, Up.refl ρ, h2, hM, rfl⟩
theorem s_assign {x : Operand} (h : (opW m (.assign x)).f ih e σ c = res) : xs Tryz.prog isI isS [] Eng.noH full (Good w0 ρ c res env (some d)) [⟨some d, .assign x, ty, pos, af, none⟩] env w := by
 obtain ⟨a, v, h1, h2, h3⟩ := gtW_inv hr hE h
 exact xas h1 ⟨a, σ, ρ, v, h3, Up.refl ρ, h2, hM, rfl⟩
theorem s_nilCheck {x : Operand} (h : (opW m (.nilCheck x)).f ih e σ c = res) : xs Tryz.prog isI isS [] Eng.noH full (Good w0 ρ c res env (some d)) [⟨some d, .nilCheck x, ty, pos, af, none⟩] env w := by
 obtain ⟨a, v, h1, h2, h3⟩ := gtW_inv hr hE h
 obtain ⟨id, o, rfl, h3⟩ := onP_inv hr h3
 have h2' := h2
 obtain ⟨p, h4, rfl⟩ := h2
 exact xnc h1 ⟨_, σ, ρ, _, h3, Up.refl ρ, h2', hM, rfl⟩
theorem s_pick {x a b : Operand} (h : (opW m (.pick x a b)).f ih e σ c = res) : xs Tryz.prog isI isS [] Eng.noH full (Good w0 ρ c res env (some d)) [⟨some d, .pick x a b, ty, pos, af, none⟩] env w := by
 obtain ⟨q, v, h1, h2, h⟩ := gtW_inv hr hE h
 obtain ⟨a', va, h3, h4, h⟩ := gtW_inv hr hE h
 obtain ⟨b', vb, h5, h6, h⟩ := gtW_inv hr hE h
 rcases onB_inv hr h with ⟨rfl, h⟩ | ⟨rfl, h⟩
 ·have h2' : v = .bool true := h2
  subst h2'
  exact xpk h1 h3 h5 rfl ⟨_, σ, ρ, _, h, Up.refl ρ, h4, hM, rfl⟩
 ·have h2' : v = .bool false := h2
  subst h2'
  exact xpk h1 h3 h5 rfl ⟨_, σ, ρ, _, h, Up.refl ρ, h6, hM, rfl⟩
end
end Rn
end Eng
end Go.Proofs.YtpfelapckcojjaaGreatDoor
namespace Go.Proofs.YtpfelapckcojjaaGreatDoor
open Go.RowKit
namespace Eng
namespace Rn
section
variable {σ : Mem} {c : Kt} {res : Rs} {ρ : Pl} (hr : res ≠ .no)
include hr
theorem wrN_inv {k : IntKind} {s : Nat} (h : wrN σ c k s = res) : ∃ v, c (.v v) σ = res ∧ SR ρ v (.int k (k.wrap (Int.ofNat s))) := by
 cases k
 case i8 | i16 | i32 | i64 =>
  obtain ⟨hb, h⟩ := okK_inv h hr
  have hb := Nat.le_of_ble_eq_true hb
  refine ⟨_, h, ?_, hb⟩
  simp [IntKind.wrap, IntKind.signed, IntKind.bits]
  omega
 case u8 | u16 | u32 | u64 =>
  have h' := (fN_eq _ _).symm.trans h
  refine ⟨_, h', ?_, ?_⟩
  ·simp [IntKind.wrap, IntKind.signed, IntKind.bits]
   exact (Int.natCast_emod s _).symm
  ·exact Nat.le_of_lt_succ (Nat.mod_lt s (by decide))
theorem wrM_inv {k : IntKind} {s : Nat} (h : wrM σ c k s = res) : ∃ v, c (.v v) σ = res ∧ SR ρ v (.int k (k.wrap (Int.negSucc s))) := by
 cases k
 case i8 | i16 | i32 | i64 =>
  obtain ⟨hb, h⟩ := okK_inv h hr
  have hb := Nat.le_of_ble_eq_true hb
  refine ⟨_, h, ?_, hb, rfl⟩
  have e : Int.negSucc s = -(s + 1 : Int) := rfl
  refine congrArg (Value.int _) ?_
  simp [IntKind.wrap, IntKind.signed, IntKind.bits, e]
  omega
 case u8 | u16 | u32 | u64 =>
  have h' := (fN_eq _ _).symm.trans h
  refine ⟨_, h', ?_, Nat.sub_le _ _⟩
  have e : Int.negSucc s = -(s + 1 : Int) := rfl
  refine congrArg (Value.int _) ?_
  have e2 : ∀ n, Nat.mod s n = s % n := fun _ => rfl
  simp [IntKind.wrap, IntKind.signed, IntKind.bits, e, e2]
  omega
theorem wrI_inv {k : IntKind} {s : Int} (h : wrI σ c k s = res) : ∃ v, c (.v v) σ = res ∧ SR ρ v (.int k (k.wrap s)) := by
 cases s with
 | ofNat s => exact wrN_inv hr ((fN_eq _ _).symm.trans h)
 | negSucc s => exact wrM_inv hr ((fN_eq _ _).symm.trans h)
theorem kkK_inv {k k' : IntKind} {r : Rs} (h : kkK k k' r = res) : k = k' ∧ r = res := by
 obtain ⟨hb, h⟩ := okK_inv h hr
 refine ⟨?_, h⟩
 cases k <;> cases k' <;> first | rfl | cases hb
theorem iiK_inv {f : IntKind → Nat → Nat → Rs} {g : IntKind → Int → Int → Rs} {x y : AV} {u v : Value} (hx : AR ρ x u) (hy : AR ρ y v) (h : iiK f g x y = res) :
  ∃ k, (∃ a b : Nat, u = .int k a ∧ v = .int k b ∧ a ≤ maxK k ∧ b ≤ maxK k ∧ f k a b = res) ∨ ∃ a b : Int, u = .int k a ∧ v = .int k b ∧ g k a b = res := by
 cases x with
 | v x =>
  cases x with
  | n k a =>
   obtain ⟨rfl, ha⟩ := hx
   cases y with
   | v y =>
    cases y with
    | n k' b =>
     obtain ⟨ek, h9⟩ := kkK_inv hr (show kkK k k' (f k a b) = res from h); clear h; subst ek; have h := h9
     obtain ⟨rfl, hb⟩ := hy
     exact ⟨k, .inl ⟨a, b, rfl, rfl, ha, hb, h⟩⟩
    | m k' b =>
     obtain ⟨ek, h9⟩ := kkK_inv hr (show kkK k k' (g k (.ofNat a) (.negSucc b)) = res from h); clear h; subst ek; have h := h9
     obtain ⟨rfl, _⟩ := hy
     exact ⟨k, .inr ⟨_, _, rfl, rfl, h⟩⟩
    | _ => exact absurd h.symm hr
   | _ => exact absurd h.symm hr
  | m k a =>
   obtain ⟨rfl, _⟩ := hx
   rcases onI_inv hr (show onI y (fun k' b => kkK k k' (g k (.negSucc a) b)) = res from h) with ⟨k', b, rfl, h⟩ | ⟨k', b, rfl, h⟩
   ·obtain ⟨ek, h9⟩ := kkK_inv hr h; clear h; subst ek; have h := h9
    obtain ⟨rfl, _⟩ := hy
    exact ⟨k, .inr ⟨_, _, rfl, rfl, h⟩⟩
   ·obtain ⟨ek, h9⟩ := kkK_inv hr h; clear h; subst ek; have h := h9
    obtain ⟨rfl, _⟩ := hy
    exact ⟨k, .inr ⟨_, _, rfl, rfl, h⟩⟩
  | _ => exact absurd h.symm hr
 | _ => exact absurd h.symm hr
end
end Rn
end Eng
end Go.Proofs.YtpfelapckcojjaaGreatDoor
namespace Go.Proofs.YtpfelapckcojjaaGreatDoor
open Go.RowKit
namespace Eng
namespace Rn
theorem wrap_id {k : IntKind} {n : Nat} (h : n ≤ maxK k) : k.wrap (n : Int) = n := by
 cases k <;> simp [maxK] at h <;> simp [IntKind.wrap, IntKind.signed, IntKind.bits] <;> omega
theorem maxK_lt (k : IntKind) : ∃ q, maxK k + 1 = 2 ^ q ∧ q ≤ k.bits := by
 cases k
 ·exact ⟨7, by decide, by decide⟩
 ·exact ⟨15, by decide, by decide⟩
 ·exact ⟨31, by decide, by decide⟩
 ·exact ⟨63, by decide, by decide⟩
 ·exact ⟨8, by decide, by decide⟩
 ·exact ⟨16, by decide, by decide⟩
 ·exact ⟨32, by decide, by decide⟩
 ·exact ⟨64, by decide, by decide⟩
theorem kb_eq (k : IntKind) : kb k = k.bits := by cases k <;> rfl
theorem nbits {k : IntKind} {a b : Nat} (ha : a ≤ maxK k) (hb : b ≤ maxK k) : bits .and k a b = ((a &&& b : Nat) : Int) ∧ bits .or k a b = ((a ||| b : Nat) : Int) ∧ bits .xor k a b = ((a ^^^ b : Nat) : Int) ∧ (a &&& b) ≤ maxK k ∧ (a ||| b) ≤ maxK k ∧ (a ^^^ b) ≤ maxK k := by
 obtain ⟨q, hq, hk⟩ := maxK_lt k
 have ha' : a < 2 ^ q := by omega
 have hb' : b < 2 ^ q := by omega
 have hle : (2 : Nat) ^ q ≤ 2 ^ k.bits := Nat.pow_le_pow_right (by decide) hk
 have e : ∀ n : Nat, n < 2 ^ k.bits → (BitVec.ofInt k.bits (n : Int)).toNat = n := fun n hn => by
  rw [BitVec.toNat_ofInt]
  rw [← Int.natCast_emod]
  simp [Nat.mod_eq_of_lt hn]
 have h1 : (a &&& b) ≤ maxK k := by have := @Nat.and_le_left a b; omega
 have h2 : (a ||| b) ≤ maxK k := by have := Nat.or_lt_two_pow ha' hb'; omega
 have h3 : (a ^^^ b) ≤ maxK k := by have := Nat.xor_lt_two_pow ha' hb'; omega
 refine ⟨?_, ?_, ?_, h1, h2, h3⟩
 ·simp only [bits, BitVec.toNat_and]
  rw [e a (by omega), e b (by omega)]
  exact wrap_id h1
 ·simp only [bits, BitVec.toNat_or]
  rw [e a (by omega), e b (by omega)]
  exact wrap_id h2
 ·simp only [bits, BitVec.toNat_xor]
  rw [e a (by omega), e b (by omega)]
  exact wrap_id h3
theorem nandn {k : IntKind} {a b : Nat} (ha : a ≤ maxK k) (hb : b ≤ maxK k) : bits .andNot k a b = ((anN a b : Nat) : Int) ∧ anN a b ≤ maxK k := by
 obtain ⟨q, hq, hk⟩ := maxK_lt k
 have ha' : a < 2 ^ q := by omega
 have hle : (2 : Nat) ^ q ≤ 2 ^ k.bits := Nat.pow_le_pow_right (by decide) hk
 have e : ∀ n : Nat, n < 2 ^ k.bits → (BitVec.ofInt k.bits (n : Int)).toNat = n := fun n hn => by
  rw [BitVec.toNat_ofInt]
  rw [← Int.natCast_emod]
  simp [Nat.mod_eq_of_lt hn]
 have h1 : a ^^^ (a &&& b) ≤ maxK k := by have h2 := @Nat.and_le_left a b; have := Nat.xor_lt_two_pow (y := a &&& b) ha' (by omega); omega
 have e2 : ∀ x y : BitVec k.bits, x &&& ~~~y = x ^^^ (x &&& y) := fun x y => by
  apply BitVec.eq_of_getLsbD_eq
  intro i hi
  simp [hi]
  cases x[i] <;> cases y[i] <;> rfl
 refine ⟨?_, h1⟩
 simp only [bits, e2, BitVec.toNat_xor, BitVec.toNat_and]
 rw [e a (by omega), e b (by omega)]
 exact wrap_id h1
theorem xanN {hs : List Nat} {H : World → Prop} {full : Array Oper} {K : Env → World → Prop} {rest : List Oper} {env : Env} {w : World} {d : Tmp} {ty : TypeId} {pos : String} {af : Array Edge} {t yt : TypeId} {x y : Operand} {k : IntKind} {a b : Int} (hx : evo env x = some (.int k a)) (hy : evo env y = some (.int k b)) (h : xs Tryz.prog isI isS hs H full K rest ((d, .int k (bits .andNot k a b)) :: env) w) : xs Tryz.prog isI isS hs H full K (⟨some d, .binOp .andNot t x y yt, ty, pos, af, none⟩ :: rest) env w := by
 refine x_bin hx hy (eqGuard_at_int ..) (fun w' => ?_) h
 rw [binOp_andNot, intBits_andNot]
 rfl
theorem bl_tot : ∀ a b : List UInt8, Op.bytesLess b a = !(Op.bytesLess a b || decide (a = b))
 | [], [] => rfl
 | [], _ :: _ => rfl
 | _ :: _, [] => rfl
 | x :: a, y :: b => by
  have ih := bl_tot a b
  simp only [Op.bytesLess, ih]
  by_cases h : x = y
  ·subst h
   simp
  ·have h' : ¬ y = x := fun e => h e.symm
   have hn : x.toNat ≠ y.toNat := fun e => h (UInt8.toNat_inj.1 e)
   simp only [beq_eq_false_iff_ne.2 h, beq_eq_false_iff_ne.2 h', Bool.false_and, Bool.or_false, List.cons.injEq, h, false_and, decide_false, UInt8.lt_iff_toNat_lt]
   by_cases h2 : x.toNat < y.toNat
   ·simp [h2, Nat.not_lt.2 (Nat.le_of_lt h2)]
   ·have : y.toNat < x.toNat := by omega
    simp [h2, this]
theorem ble_dec (a b : Nat) : Nat.ble a b = decide (a ≤ b) := by
 cases h : Nat.ble a b with
 | true => exact (decide_eq_true (Nat.le_of_ble_eq_true h)).symm
 | false => exact (decide_eq_false fun hh => by rw [Nat.ble_eq_true_of_le hh] at h; cases h).symm
theorem beq_dcd (a b : Nat) : Nat.beq a b = decide (a = b) := by
 rcases beq_cases a b with ⟨h1, h2⟩ | ⟨h1, h2⟩
 ·rw [h2]; exact (decide_eq_true h1).symm
 ·rw [h2]; exact (decide_eq_false h1).symm
theorem bI_eq (a b : Int) : bI a b = decide (a < b) := by
 cases a with
 | ofNat m =>
  cases b with
  | ofNat n =>
   show Nat.ble (m + 1) n = _
   rw [ble_dec]
   congr 1
   simp only [eq_iff_iff]
   show m + 1 ≤ n ↔ (m : Int) < (n : Int)
   omega
  | negSucc n => exact (decide_eq_false (by show ¬ (m : Int) < -(n + 1 : Int); omega)).symm
 | negSucc m =>
  cases b with
  | ofNat n => exact (decide_eq_true (by show -(m + 1 : Int) < (n : Int); omega)).symm
  | negSucc n =>
   show Nat.ble (n + 1) m = _
   rw [ble_dec]
   congr 1
   simp only [eq_iff_iff]
   show n + 1 ≤ m ↔ -(m + 1 : Int) < -(n + 1 : Int)
   omega
theorem eI_eq (a b : Int) : eI a b = decide (a = b) := by
 cases a with
 | ofNat m =>
  cases b with
  | ofNat n =>
   show Nat.beq m n = _
   rw [beq_dcd]
   congr 1
   simp only [eq_iff_iff]
   show m = n ↔ (m : Int) = (n : Int)
   omega
  | negSucc n => exact (decide_eq_false (by show ¬ (m : Int) = -(n + 1 : Int); omega)).symm
 | negSucc m =>
  cases b with
  | ofNat n => exact (decide_eq_false (by show ¬ -(m + 1 : Int) = (n : Int); omega)).symm
  | negSucc n =>
   show Nat.beq m n = _
   rw [beq_dcd]
   congr 1
   simp only [eq_iff_iff]
   show m = n ↔ -(m + 1 : Int) = -(n + 1 : Int)
   omega
theorem u8_inj {a b : Nat} (ha : a < 256) (hb : b < 256) : UInt8.ofNat a = UInt8.ofNat b ↔ a = b := by
 constructor
 ·intro h
  have := congrArg UInt8.toNat h
  simp only [UInt8.toNat_ofNat'] at this
  omega
 ·intro h; rw [h]
theorem eU_eq : ∀ {a b : List Nat}, (∀ c ∈ a, c < 256) → (∀ c ∈ b, c < 256) → eU a b = decide (uOf a = uOf b)
 | [], [], _, _ => rfl
 | [], _ :: _, _, _ => rfl
 | _ :: _, [], _, _ => rfl
 | x :: a, y :: b, ha, hb => by
  have h' : eU (x :: a) (y :: b) = Bool.rec (motive := fun _ => Bool) false (eU a b) (Nat.beq x y) := rfl
  have ih := eU_eq (fun c hc => ha c (List.mem_cons_of_mem _ hc)) (fun c hc => hb c (List.mem_cons_of_mem _ hc))
  have h8 := u8_inj (ha x (by simp)) (hb y (by simp))
  rw [h']
  rcases beq_cases x y with ⟨h1, h2⟩ | ⟨h1, h2⟩
  ·rw [h2]
   subst h1
   show eU a b = _
   rw [ih]
   exact decide_eq_decide.2 (by simp only [uOf, List.map_cons, List.cons.injEq, true_and])
  ·rw [h2]
   show false = _
   have : ¬ UInt8.ofNat x = UInt8.ofNat y := fun e => h1 (h8.1 e)
   exact (decide_eq_false (by simp [uOf, this])).symm
theorem ltU_eq : ∀ {a b : List Nat}, (∀ c ∈ a, c < 256) → (∀ c ∈ b, c < 256) → ltU a b = Op.bytesLess (uOf a) (uOf b)
 | [], [], _, _ => rfl
 | [], _ :: _, _, _ => rfl
 | _ :: _, [], _, _ => rfl
 | x :: a, y :: b, ha, hb => by
  have h' : ltU (x :: a) (y :: b) = Bool.rec (motive := fun _ => Bool) (Nat.ble (x + 1) y) (ltU a b) (Nat.beq x y) := rfl
  have ih := ltU_eq (fun c hc => ha c (List.mem_cons_of_mem _ hc)) (fun c hc => hb c (List.mem_cons_of_mem _ hc))
  have hx := ha x (by simp)
  have hy := hb y (by simp)
  have h8 := u8_inj hx hy
  have hl : (UInt8.ofNat x < UInt8.ofNat y) = (x < y) := by
   rw [UInt8.lt_iff_toNat_lt]
   simp only [UInt8.toNat_ofNat']
   rw [Nat.mod_eq_of_lt hx, Nat.mod_eq_of_lt hy]
  rw [h']
  show _ = (decide (UInt8.ofNat x < UInt8.ofNat y) || (UInt8.ofNat x == UInt8.ofNat y && Op.bytesLess (uOf a) (uOf b)))
  simp only [hl]
  rcases beq_cases x y with ⟨h1, h2⟩ | ⟨h1, h2⟩
  ·rw [h2]
   subst h1
   show ltU a b = _
   rw [ih]
   simp
  ·rw [h2]
   show Nat.ble (x + 1) y = _
   have : ¬ UInt8.ofNat x = UInt8.ofNat y := fun e => h1 (h8.1 e)
   rw [ble_dec, beq_eq_false_iff_ne.2 this]
   simp
   rfl
theorem bK_eq (σ : Mem) (c : Kt) (b : Bool) : bK σ c b = c (.v (.b b)) σ := by cases b <;> rfl
theorem eB_eq (a b : Bool) : eB a b = (a == b) := by cases a <;> cases b <;> rfl
section
variable {m : Nat} {ih : Cl} {e : En} {σ : Mem} {c : Kt} {res : Rs} {ρ : Pl} {env : Env} {w0 : Fm} {w : World} {full : Array Oper} {d : Tmp} {ty : TypeId} {pos : String} {af : Array Edge} (hr : res ≠ .no)
include hr
theorem nkK_inv {f : IntKind → Nat → Nat → Rs} {x y : AV} {u v : Value} (hx : AR ρ x u) (hy : AR ρ y v) (h : nkK f x y = res) : ∃ k, ∃ a b : Nat, u = .int k a ∧ v = .int k b ∧ a ≤ maxK k ∧ b ≤ maxK k ∧ f k a b = res := by
 obtain ⟨k, a, e1, h1⟩ := onN_inv hr h
 obtain ⟨k', b, e2, h2⟩ := onN_inv hr h1
 obtain ⟨e3, h3⟩ := kkK_inv hr h2
 subst e1; subst e2; subst e3
 exact ⟨k, a, b, hx.1, hy.1, hx.2, hy.2, h3⟩
theorem nnK_inv {f : IntKind → Nat → Nat → Rs} {x y : AV} {u v : Value} (hx : AR ρ x u) (hy : AR ρ y v) (h : nnK f x y = res) : ∃ k k', ∃ a b : Nat, u = .int k a ∧ v = .int k' b ∧ a ≤ maxK k ∧ f k a b = res := by
 obtain ⟨k, a, e1, h1⟩ := onN_inv hr h
 obtain ⟨k', b, e2, h2⟩ := onN_inv hr h1
 subst e1; subst e2
 exact ⟨k, k', a, b, hx.1, hy.1, hx.2, h2⟩
theorem cmK_inv {fI : Int → Int → Bool} {fU : List Nat → List Nat → Bool} {q : Bool} {x y : AV} {u v : Value} (hx : AR ρ x u) (hy : AR ρ y v) (h : cmK fI fU q σ c x y = res) :
  (∃ k a b, u = .int k a ∧ v = .int k b ∧ c (.v (.b (q == fI a b))) σ = res) ∨ (∃ a b, u = .string (su (uOf a)) ∧ v = .string (su (uOf b)) ∧ (∀ c ∈ a, c < 256) ∧ (∀ c ∈ b, c < 256) ∧ c (.v (.b (q == fU a b))) σ = res) ∨ ∃ a b : Nat, u = .float .f64 (fw a) ∧ v = .float .f64 (fw b) ∧ a ≤ 1099511627776 ∧ b ≤ 1099511627776 ∧ c (.v (.b (q == fI a b))) σ = res := by
 cases x with
 | v x =>
  cases x with
  | n k a =>
   obtain ⟨rfl, ha⟩ := hx
   rcases onI_inv hr (show onI y (fun k' b => kkK k k' (bK σ c (eB q (fI (.ofNat a) b)))) = res from h) with ⟨k', b, e1, h1⟩ | ⟨k', b, e1, h1⟩
   ·obtain ⟨ek, h9⟩ := kkK_inv hr h1
    rw [bK_eq, eB_eq] at h9
    subst ek; subst e1
    exact .inl ⟨k, _, _, rfl, hy.1, h9⟩
   ·obtain ⟨ek, h9⟩ := kkK_inv hr h1
    rw [bK_eq, eB_eq] at h9
    subst ek; subst e1
    exact .inl ⟨k, _, _, rfl, hy.1, h9⟩
  | m k a =>
   obtain ⟨rfl, _⟩ := hx
   rcases onI_inv hr (show onI y (fun k' b => kkK k k' (bK σ c (eB q (fI (.negSucc a) b)))) = res from h) with ⟨k', b, e1, h1⟩ | ⟨k', b, e1, h1⟩
   ·obtain ⟨ek, h9⟩ := kkK_inv hr h1
    rw [bK_eq, eB_eq] at h9
    subst ek; subst e1
    exact .inl ⟨k, _, _, rfl, hy.1, h9⟩
   ·obtain ⟨ek, h9⟩ := kkK_inv hr h1
    rw [bK_eq, eB_eq] at h9
    subst ek; subst e1
    exact .inl ⟨k, _, _, rfl, hy.1, h9⟩
  | s a =>
   obtain ⟨b, e1, h1⟩ := onS_inv hr (show onS y (fun b => bK σ c (eB q (fU a b))) = res from h)
   rw [bK_eq, eB_eq] at h1
   subst e1
   exact .inr (.inl ⟨a, b, hx.1, hy.1, hx.2.1, hy.2.1, h1⟩)
  | fl a =>
   obtain ⟨b, e1, h1⟩ := onE_inv hr (show onE y (fun b => bK σ c (eB q (fI (.ofNat a) (.ofNat b)))) = res from h)
   rw [bK_eq, eB_eq] at h1
   subst e1
   exact .inr (.inr ⟨a, b, hx.1, hy.1, hx.2, hy.2, h1⟩)
  | _ => exact absurd h.symm hr
 | _ => exact absurd h.symm hr
theorem onQ_inv {x : AV} {f0 : Rs} {f : Nat → Nat → Rs} (h : onQ x f0 f = res) : (x = .v .p0 ∧ f0 = res) ∨ ∃ id o, x = .v (.p id o) ∧ f id o = res := by
 cases x with
 | v x => cases x <;> first | exact .inl ⟨rfl, h⟩ | exact .inr ⟨_, _, rfl, h⟩ | exact absurd h.symm hr
 | _ => exact absurd h.symm hr
theorem onL_inv {x : AV} {f0 : Rs} {fl : Nat → Nat → Nat → Nat → Rs} {fx : Nat → Nat → Nat → Nat → Nat → Rs} {fe : Rs} {fs : List Nat → Rs} {fp : Nat → Nat → Rs} (h : onL x f0 fl fx fe fs fp = res) :
  (x = .v .l0 ∧ f0 = res) ∨ (∃ id z j n, x = .v (.l id z j n) ∧ fl id z j n = res) ∨ (∃ id z j n k, x = .v (.lx id z j n k) ∧ fx id z j n k = res) ∨ (∃ id z j a, x = .v (.le id z j a) ∧ fe = res) ∨ (∃ l, x = .v (.s l) ∧ fs l = res) ∨ ∃ id o, x = .v (.p id o) ∧ fp id o = res := by
 cases x with
 | v x =>
  cases x with
  | l0 => exact .inl ⟨rfl, h⟩
  | l id z j n => exact .inr (.inl ⟨_, _, _, _, rfl, h⟩)
  | lx id z j n k => exact .inr (.inr (.inl ⟨_, _, _, _, _, rfl, h⟩))
  | le id z j a => exact .inr (.inr (.inr (.inl ⟨_, _, _, _, rfl, h⟩)))
  | s l => exact .inr (.inr (.inr (.inr (.inl ⟨_, rfl, h⟩))))
  | p id o => exact .inr (.inr (.inr (.inr (.inr ⟨_, _, rfl, h⟩))))
  | _ => exact absurd h.symm hr
 | _ => exact absurd h.symm hr
variable (hE : ER m ρ e env) (hM : MR w0 ρ σ w)
include hE
theorem two {x y : Operand} {f : AV → AV → Rs} (h : ((gtW m x).f e fun x => (gtW m y).f e fun y => f x y) = res) : ∃ a b va vb, evo env x = some va ∧ evo env y = some vb ∧ AR ρ a va ∧ AR ρ b vb ∧ f a b = res := by
 obtain ⟨a, va, h1, h2, h⟩ := gtW_inv hr hE h
 obtain ⟨b, vb, h3, h4, h⟩ := gtW_inv hr hE h
 exact ⟨a, b, va, vb, h1, h3, h2, h4, h⟩
include hM
theorem s_ar {op : BinOp} {t yt : TypeId} {x y : Operand} {f : Nat → Nat → Nat} {g : Int → Int → Int} (ho : ∀ k a b w', (binOp op t (.int k a) (.int k b)).run Tryz.prog w' = .ok (.int k (k.wrap (g a b))) w') (hfg : ∀ a b : Nat, g a b = f a b)
  (h : (arW f g m x y).f ih e σ c = res) : xs Tryz.prog isI isS [] Eng.noH full (Good w0 ρ c res env (some d)) [⟨some d, .binOp op t x y yt, ty, pos, af, none⟩] env w := by
 obtain ⟨a, b, va, vb, h1, h2, h3, h4, h⟩ := two hr hE h
 obtain ⟨k, ⟨a, b, rfl, rfl, _, _, h⟩ | ⟨a, b, rfl, rfl, h⟩⟩ := iiK_inv hr h3 h4 h
 ·rw [fN_eq] at h
  obtain ⟨v, h, hv⟩ := wrN_inv (ρ := ρ) hr h
  exact x_bin h1 h2 (eqGuard_at_int ..) (fun w' => ho k _ _ w') ⟨_, σ, ρ, _, h, Up.refl ρ, by rw [hfg]; exact hv, hM, rfl⟩
 ·obtain ⟨v, h, hv⟩ := wrI_inv (ρ := ρ) hr h
  exact x_bin h1 h2 (eqGuard_at_int ..) (fun w' => ho k _ _ w') ⟨_, σ, ρ, _, h, Up.refl ρ, hv, hM, rfl⟩
theorem s_sub {t yt : TypeId} {x y : Operand} (h : (suW m x y).f ih e σ c = res) : xs Tryz.prog isI isS [] Eng.noH full (Good w0 ρ c res env (some d)) [⟨some d, .binOp .sub t x y yt, ty, pos, af, none⟩] env w := by
 obtain ⟨a, b, va, vb, h1, h2, h3, h4, h⟩ := two hr hE h
 have ho : ∀ k a b w', (binOp .sub t (.int k a) (.int k b)).run Tryz.prog w' = .ok (.int k (k.wrap (a - b))) w' := fun k a b w' => by simp [binOp, Op.intArith]
 obtain ⟨k, ⟨a, b, rfl, rfl, ha, _, h⟩ | ⟨a, b, rfl, rfl, h⟩⟩ := iiK_inv hr h3 h4 h
 ·unfold suK at h
  rw [ifK_eq] at h
  split at h
  ·rename_i hb
   have hb := Nat.le_of_ble_eq_true hb
   rw [fN_eq] at h
   refine x_bin h1 h2 (eqGuard_at_int ..) (fun w' => ho k _ _ w') ⟨_, σ, ρ, _, h, Up.refl ρ, ⟨?_, ?_⟩, hM, rfl⟩
   ·have e1 : ((a : Int) - (b : Int)) = ((a - b : Nat) : Int) := by omega
    rw [e1, wrap_id (by omega)]
    rfl
   ·show a - b ≤ _
    omega
  ·rename_i hb
   have hb : a < b := by
    rw [ble_dec] at hb
    simpa using hb
   rw [fN_eq] at h
   obtain ⟨v, h, hv⟩ := wrM_inv (ρ := ρ) hr h
   refine x_bin h1 h2 (eqGuard_at_int ..) (fun w' => ho k _ _ w') ⟨_, σ, ρ, _, h, Up.refl ρ, ?_, hM, rfl⟩
   have e1 : ((a : Int) - (b : Int)) = Int.negSucc (Nat.sub (Nat.sub b a) 1) := by
    show _ = -(((b - a - 1 : Nat) : Int) + 1)
    omega
   rw [e1]
   exact hv
 ·obtain ⟨v, h, hv⟩ := wrI_inv (ρ := ρ) hr h
  exact x_bin h1 h2 (eqGuard_at_int ..) (fun w' => ho k _ _ w') ⟨_, σ, ρ, _, h, Up.refl ρ, hv, hM, rfl⟩
theorem s_quo {t yt : TypeId} {x y : Operand} (h : (dvW Nat.div m x y).f ih e σ c = res) : xs Tryz.prog isI isS [] Eng.noH full (Good w0 ρ c res env (some d)) [⟨some d, .binOp .quo t x y yt, ty, pos, af, none⟩] env w := by
 obtain ⟨a, b, va, vb, h1, h2, h3, h4, h⟩ := two hr hE h
 obtain ⟨k, a, b, rfl, rfl, ha, hb, h⟩ := nkK_inv hr h3 h4 h
 obtain ⟨hb1, h⟩ := okK_inv h hr
 have hb1 := Nat.le_of_ble_eq_true hb1
 rw [fN_eq] at h
 have hle : a / b ≤ maxK k := Nat.le_trans (Nat.div_le_self _ _) ha
 refine xdv (r := ((a / b : Nat) : Int)) h1 h2 ?_ (by omega) (by omega) (wrap_id ha) ⟨_, σ, ρ, _, h, Up.refl ρ, ⟨rfl, hle⟩, hM, rfl⟩
 simp [dvI]
theorem s_rem {t yt : TypeId} {x y : Operand} (h : (dvW Nat.mod m x y).f ih e σ c = res) : xs Tryz.prog isI isS [] Eng.noH full (Good w0 ρ c res env (some d)) [⟨some d, .binOp .rem t x y yt, ty, pos, af, none⟩] env w := by
 obtain ⟨a, b, va, vb, h1, h2, h3, h4, h⟩ := two hr hE h
 obtain ⟨k, a, b, rfl, rfl, ha, hb, h⟩ := nkK_inv hr h3 h4 h
 obtain ⟨hb1, h⟩ := okK_inv h hr
 have hb1 := Nat.le_of_ble_eq_true hb1
 rw [fN_eq] at h
 have hle : a % b ≤ maxK k := Nat.le_trans (Nat.mod_le _ _) ha
 refine xdv (r := ((a % b : Nat) : Int)) h1 h2 ?_ (by omega) (by omega) (wrap_id ha) ⟨_, σ, ρ, _, h, Up.refl ρ, ⟨rfl, hle⟩, hM, rfl⟩
 simp [dvI]
theorem s_bit {op : BinOp} {t yt : TypeId} {x y : Operand} {f : Nat → Nat → Nat} (ho : op = .and ∨ op = .or ∨ op = .xor ∨ op = .andNot) (hf : ∀ {k : IntKind} {a b : Nat}, a ≤ maxK k → b ≤ maxK k → bits op k a b = (f a b : Int) ∧ f a b ≤ maxK k)
  (h : (btW f m x y).f ih e σ c = res) : xs Tryz.prog isI isS [] Eng.noH full (Good w0 ρ c res env (some d)) [⟨some d, .binOp op t x y yt, ty, pos, af, none⟩] env w := by
 obtain ⟨a, b, va, vb, h1, h2, h3, h4, h⟩ := two hr hE h
 obtain ⟨k, a, b, rfl, rfl, ha, hb, h⟩ := nkK_inv hr h3 h4 h
 rw [fN_eq] at h
 obtain ⟨e1, e2⟩ := hf ha hb
 have hh : Good w0 ρ c res env (some d) ((d, .int k (f a b : Int)) :: env) w := ⟨_, σ, ρ, _, h, Up.refl ρ, ⟨rfl, e2⟩, hM, rfl⟩
 rcases ho with ho | ho | ho | rfl
 ·exact xbits h1 h2 (.inl ho) e1 hh
 ·exact xbits h1 h2 (.inr (.inl ho)) e1 hh
 ·exact xbits h1 h2 (.inr (.inr ho)) e1 hh
 ·exact xanN h1 h2 (by rw [e1]; exact hh)
theorem s_shl {t yt : TypeId} {x y : Operand} (h : (shW m x y).f ih e σ c = res) : xs Tryz.prog isI isS [] Eng.noH full (Good w0 ρ c res env (some d)) [⟨some d, .binOp .shl t x y yt, ty, pos, af, none⟩] env w := by
 obtain ⟨a, b, va, vb, h1, h2, h3, h4, h⟩ := two hr hE h
 obtain ⟨k, k', a, b, rfl, rfl, ha, h⟩ := nnK_inv hr h3 h4 h
 obtain ⟨hb1, h⟩ := okK_inv h hr
 have hb1 := Nat.le_of_ble_eq_true hb1
 rw [kb_eq] at hb1
 rw [fN_eq] at h
 obtain ⟨v, h, hv⟩ := wrN_inv (ρ := ρ) hr h
 refine xshl h1 h2 (by omega) (by omega) rfl ⟨_, σ, ρ, _, h, Up.refl ρ, ?_, hM, rfl⟩
 have e1 : ((a : Int) * 2 ^ (b : Int).toNat) = Int.ofNat (Nat.shiftLeft a b) := by
  show _ = ((a <<< b : Nat) : Int)
  rw [Nat.shiftLeft_eq]
  simp
 rw [e1]
 exact hv
theorem s_shr {t yt : TypeId} {x y : Operand} (h : (srW m x y).f ih e σ c = res) : xs Tryz.prog isI isS [] Eng.noH full (Good w0 ρ c res env (some d)) [⟨some d, .binOp .shr t x y yt, ty, pos, af, none⟩] env w := by
 obtain ⟨a, b, va, vb, h1, h2, h3, h4, h⟩ := two hr hE h
 obtain ⟨k, k', a, b, rfl, rfl, ha, h⟩ := nnK_inv hr h3 h4 h
 obtain ⟨hb1, h⟩ := okK_inv h hr
 have hb1 := Nat.le_of_ble_eq_true hb1
 rw [kb_eq] at hb1
 rw [fN_eq] at h
 have e2 : Nat.shiftRight a b = a / 2 ^ b := Nat.shiftRight_eq_div_pow a b
 refine xshr h1 h2 (by omega) (by omega) ⟨_, σ, ρ, _, h, Up.refl ρ, ⟨?_, ?_⟩, hM, rfl⟩
 ·rw [e2]
  simp
 ·rw [e2]
  exact Nat.le_trans (Nat.div_le_self _ _) ha
theorem s_add {t yt : TypeId} {x y : Operand} (h : (adW m x y).f ih e σ c = res) : xs Tryz.prog isI isS [] Eng.noH full (Good w0 ρ c res env (some d)) [⟨some d, .binOp .add t x y yt, ty, pos, af, none⟩] env w := by
 obtain ⟨a, b, va, vb, h1, h2, h3, h4, h⟩ := two hr hE h
 have ho : ∀ k a b w', (binOp .add t (.int k a) (.int k b)).run Tryz.prog w' = .ok (.int k (k.wrap (a + b))) w' := fun k a b w' => by simp [binOp, Op.intArith]
 cases a with
 | v a =>
  cases a with
  | n k a =>
   obtain ⟨rfl, ha⟩ := h3
   cases b with
   | v b =>
    cases b with
    | n k' b =>
     obtain ⟨ek, h9⟩ := kkK_inv hr (show kkK k k' (fN (Nat.add a b) fun s => wrN σ c k s) = res from h); clear h; subst ek; have h := h9
     obtain ⟨rfl, hb⟩ := h4
     rw [fN_eq] at h
     obtain ⟨v, h, hv⟩ := wrN_inv (ρ := ρ) hr h
     exact x_bin h1 h2 (eqGuard_at_int ..) (fun w' => ho k _ _ w') ⟨_, σ, ρ, _, h, Up.refl ρ, hv, hM, rfl⟩
    | m k' b =>
     obtain ⟨ek, h9⟩ := kkK_inv hr (show kkK k k' (wrI σ c k (Int.add (.ofNat a) (.negSucc b))) = res from h); clear h; subst ek; have h := h9
     obtain ⟨rfl, hb⟩ := h4
     obtain ⟨v, h, hv⟩ := wrI_inv (ρ := ρ) hr h
     exact x_bin h1 h2 (eqGuard_at_int ..) (fun w' => ho k _ _ w') ⟨_, σ, ρ, _, h, Up.refl ρ, hv, hM, rfl⟩
    | _ => exact absurd h.symm hr
   | _ => exact absurd h.symm hr
  | m k a =>
   obtain ⟨rfl, ha⟩ := h3
   rcases onI_inv hr (show onI b (fun k' b => kkK k k' (wrI σ c k (Int.add (.negSucc a) b))) = res from h) with ⟨k', b, rfl, h⟩ | ⟨k', b, rfl, h⟩
   ·obtain ⟨ek, h9⟩ := kkK_inv hr h; clear h; subst ek; have h := h9
    obtain ⟨rfl, hb⟩ := h4
    obtain ⟨v, h, hv⟩ := wrI_inv (ρ := ρ) hr h
    exact x_bin h1 h2 (eqGuard_at_int ..) (fun w' => ho k _ _ w') ⟨_, σ, ρ, _, h, Up.refl ρ, hv, hM, rfl⟩
   ·obtain ⟨ek, h9⟩ := kkK_inv hr h; clear h; subst ek; have h := h9
    obtain ⟨rfl, hb, _⟩ := h4
    obtain ⟨v, h, hv⟩ := wrI_inv (ρ := ρ) hr h
    exact x_bin h1 h2 (eqGuard_at_int ..) (fun w' => ho k _ _ w') ⟨_, σ, ρ, _, h, Up.refl ρ, hv, hM, rfl⟩
  | s a =>
   obtain ⟨rfl, ha, hla⟩ := h3
   obtain ⟨b, rfl, h⟩ := onS_inv hr (show onS b (fun b => okK (Nat.ble (a ++ b).length maxLen) (fP (a ++ b) fun s => c (.v (.s s)) σ)) = res from h)
   obtain ⟨rfl, hb, hlb⟩ := h4
   obtain ⟨hq, h⟩ := okK_inv h hr
   have hq := Nat.le_of_ble_eq_true hq
   rw [fP_eq] at h
   have hq' : (uOf a).length + (uOf b).length ≤ maxLen := by
    have : (a ++ b).length ≤ maxLen := hq
    simpa [uOf] using this
   refine xuadd h1 h2 hq' ⟨_, σ, ρ, _, h, Up.refl ρ, ⟨by simp [uOf], fun q hq => ?_, hq⟩, hM, rfl⟩
   rcases List.mem_append.1 hq with hq | hq
   ·exact ha q hq
   ·exact hb q hq
  | _ => exact absurd h.symm hr
 | _ => exact absurd h.symm hr
theorem s_cm {op : BinOp} {t yt : TypeId} {x y : Operand} {fI : Int → Int → Bool} {fU : List Nat → List Nat → Bool} {q : Bool} (hI : ∀ k a b w', (binOp op t (.int k a) (.int k b)).run Tryz.prog w' = .ok (.bool (q == fI a b)) w') (hU : ∀ a b : List Nat, (∀ c ∈ a, c < 256) → (∀ c ∈ b, c < 256) → cmpU op (uOf a) (uOf b) = some (q == fU a b)) (hF : ∀ a b : Nat, a ≤ 1099511627776 → b ≤ 1099511627776 → ∀ w', (binOp op t (.float .f64 (fw a)) (.float .f64 (fw b))).run Tryz.prog w' = .ok (.bool (q == fI a b)) w')
  (h : (cmW fI fU q m x y).f ih e σ c = res) : xs Tryz.prog isI isS [] Eng.noH full (Good w0 ρ c res env (some d)) [⟨some d, .binOp op t x y yt, ty, pos, af, none⟩] env w := by
 obtain ⟨a, b, va, vb, h1, h2, h3, h4, h⟩ := two hr hE h
 rcases cmK_inv hr h3 h4 h with ⟨k, a, b, rfl, rfl, h⟩ | ⟨a, b, rfl, rfl, ha, hb, h⟩ | ⟨a, b, rfl, rfl, ha, hb, h⟩
 ·exact x_bin h1 h2 (eqGuard_at_int ..) (fun w' => hI k _ _ w') ⟨_, σ, ρ, _, h, Up.refl ρ, rfl, hM, rfl⟩
 ·exact xucmp h1 h2 (hU a b ha hb) ⟨_, σ, ρ, _, h, Up.refl ρ, rfl, hM, rfl⟩
 ·exact x_bin h1 h2 (by cases op <;> rfl) (fun w' => hF a b ha hb w') ⟨_, σ, ρ, _, h, Up.refl ρ, rfl, hM, rfl⟩
theorem s_mc {op : BinOp} {t yt : TypeId} {x y : Operand} {fI : Int → Int → Bool} {fU : List Nat → List Nat → Bool} {q : Bool} (hI : ∀ k a b w', (binOp op t (.int k a) (.int k b)).run Tryz.prog w' = .ok (.bool (q == fI b a)) w') (hU : ∀ a b : List Nat, (∀ c ∈ a, c < 256) → (∀ c ∈ b, c < 256) → cmpU op (uOf a) (uOf b) = some (q == fU b a)) (hF : ∀ a b : Nat, a ≤ 1099511627776 → b ≤ 1099511627776 → ∀ w', (binOp op t (.float .f64 (fw a)) (.float .f64 (fw b))).run Tryz.prog w' = .ok (.bool (q == fI b a)) w')
  (h : (cmW fI fU q m y x).f ih e σ c = res) : xs Tryz.prog isI isS [] Eng.noH full (Good w0 ρ c res env (some d)) [⟨some d, .binOp op t x y yt, ty, pos, af, none⟩] env w := by
 obtain ⟨b, a, vb, va, h2, h1, h4, h3, h⟩ := two hr hE h
 rcases cmK_inv hr h4 h3 h with ⟨k, b, a, rfl, rfl, h⟩ | ⟨b, a, rfl, rfl, hb, ha, h⟩ | ⟨b, a, rfl, rfl, hb, ha, h⟩
 ·exact x_bin h1 h2 (eqGuard_at_int ..) (fun w' => hI k _ _ w') ⟨_, σ, ρ, _, h, Up.refl ρ, rfl, hM, rfl⟩
 ·exact xucmp h1 h2 (hU a b ha hb) ⟨_, σ, ρ, _, h, Up.refl ρ, rfl, hM, rfl⟩
 ·exact x_bin h1 h2 (by cases op <;> rfl) (fun w' => hF a b ha hb w') ⟨_, σ, ρ, _, h, Up.refl ρ, rfl, hM, rfl⟩
theorem s_not {t : TypeId} {x : Operand} (h : (unW m .not x).f ih e σ c = res) : xs Tryz.prog isI isS [] Eng.noH full (Good w0 ρ c res env (some d)) [⟨some d, .unOp .not t x, ty, pos, af, none⟩] env w := by
 obtain ⟨q, v, h1, h2, h⟩ := gtW_inv hr hE (show (gtW m x).f e _ = res from h)
 rcases onB_inv hr h with ⟨rfl, h⟩ | ⟨rfl, h⟩
 ·have h2' : v = .bool true := h2
  subst h2'
  exact xnot h1 ⟨_, σ, ρ, _, h, Up.refl ρ, rfl, hM, rfl⟩
 ·have h2' : v = .bool false := h2
  subst h2'
  exact xnot h1 ⟨_, σ, ρ, _, h, Up.refl ρ, rfl, hM, rfl⟩
theorem s_neg {t : TypeId} {x : Operand} (h : (unW m .neg x).f ih e σ c = res) : xs Tryz.prog isI isS [] Eng.noH full (Good w0 ρ c res env (some d)) [⟨some d, .unOp .neg t x, ty, pos, af, none⟩] env w := by
 obtain ⟨q, v, h1, h2, h⟩ := gtW_inv hr hE (show (gtW m x).f e _ = res from h)
 have key : ∀ k (n : Int), v = .int k n → wrI σ c k (Int.neg n) = res → xs Tryz.prog isI isS [] Eng.noH full (Good w0 ρ c res env (some d)) [⟨some d, .unOp .neg t x, ty, pos, af, none⟩] env w := fun k n hv h => by
  subst hv
  obtain ⟨v, h, hv⟩ := wrI_inv (ρ := ρ) hr h
  refine x_gen rfl (by simp [opsOK, Op.operands, h1]) ⟨.int k (k.wrap (-n)), fun w' => ?_, _, σ, ρ, _, h, Up.refl ρ, hv, hM, rfl⟩
  simp [execOp, ev_of h1, Op.unary, Op.intArith]
 rcases onI_inv hr h with ⟨k, a, rfl, h⟩ | ⟨k, a, rfl, h⟩
 ·exact key k _ h2.1 h
 ·exact key k _ h2.1 h
end
end Rn
end Eng
end Go.Proofs.YtpfelapckcojjaaGreatDoor
namespace Go.Proofs.YtpfelapckcojjaaGreatDoor
open Go.RowKit
namespace Eng
namespace Rn
theorem uns_sig {k : IntKind} (h : uns k = true) : k.signed = false := by cases k <;> first | rfl | cases h
theorem wrap_uns {k : IntKind} (h : k.signed = false) (z : Int) : ∃ n : Nat, k.wrap z = n ∧ n ≤ maxK k := by
 cases k <;> first | cases h | skip
 ·exact ⟨(z % 256).toNat, by simp [IntKind.wrap, IntKind.signed, IntKind.bits]; omega, by simp [maxK]; omega⟩
 ·exact ⟨(z % 65536).toNat, by simp [IntKind.wrap, IntKind.signed, IntKind.bits]; omega, by simp [maxK]; omega⟩
 ·exact ⟨(z % 4294967296).toNat, by simp [IntKind.wrap, IntKind.signed, IntKind.bits]; omega, by simp [maxK]; omega⟩
 ·exact ⟨(z % 18446744073709551616).toNat, by simp [IntKind.wrap, IntKind.signed, IntKind.bits]; omega, by simp [maxK]; omega⟩
theorem MR.unk {ρ : Pl} {σ σ' : Mem} {w0 : Fm} {w : World} (h : MR w0 ρ σ w) (b : Nat) (hn : σ'.n = σ.n + 1 ∧ σ'.mp = σ.mp) (hob : oget σ' σ.n = some ⟨0, 0, 0, .nil⟩) (hk : ∀ k, k ≠ σ.n → oget σ' k = oget σ k) : MR w0 (ρ ++ [⟨b, 0, 0⟩]) σ' w := by
 have hu := Up.snoc ρ ⟨b, 0, 0⟩
 have hold : ∀ id o p, (cget σ' id o).isSome = true → (ρ ++ [(⟨b, 0, 0⟩ : At)])[id]? = some p → id ≠ σ.n ∧ (cget σ id o).isSome = true ∧ ρ[id]? = some p := fun id o p hs hp => by
  have hid : id ≠ σ.n := fun e => by
   subst e
   unfold cget at hs
   rw [hob] at hs
   have hh' : (tget 0 o (Tr.nil : Tr SV)).isSome = true := hs
   rw [tget_nil] at hh'
   cases hh'
  have e1 : cget σ' id o = cget σ id o := by unfold cget; rw [hk id hid]
  rw [e1] at hs
  obtain ⟨x, hx⟩ := Option.isSome_iff_exists.1 hs
  obtain ⟨q, ob', cs, v, h1, _⟩ := h.at_ hx
  have := hu _ _ h1
  rw [hp] at this
  injection this with this; subst this
  exact ⟨hid, hs, h1⟩
 refine ⟨by simp [h.len, hn.1], fun id ob' h1 h2 => ?_, h.old, fun id o p hs hp => ?_, fun id ob' h1 o ho => ?_, fun id id' o o' p p' hne hs hs' hp hp' => ?_, by rw [hn.2]; exact h.mps.to hu (fun _ _ hb => hb) fun _ _ _ hb => hb⟩
 ·have hid : id ≠ σ.n := fun e => by
   subst e
   rw [hob] at h1; injection h1 with h1; subst h1
   obtain ⟨o, ho⟩ := h2
   rw [tget_nil] at ho
   cases ho
  rw [hk id hid] at h1
  obtain ⟨p, cs, h3, h4, h6, h5⟩ := h.blk id ob' h1 h2
  refine ⟨p, cs, hu _ _ h3, h4, h6, fun o x hx => ?_⟩
  obtain ⟨v, h7, h8⟩ := h5 o x hx
  exact ⟨v, h7, h8.up hu⟩
 ·obtain ⟨_, a1, a2⟩ := hold id o p hs hp
  exact h.far id o p a1 a2
 ·by_cases hid : id = σ.n
  ·subst hid
   rw [hob] at h1; injection h1 with h1; subst h1
   exact tget_nil _ _
  ·rw [hk id hid] at h1
   exact h.pre id ob' h1 o ho
 ·obtain ⟨_, a1, a2⟩ := hold id o p hs hp
  obtain ⟨_, b1, b2⟩ := hold id' o' p' hs' hp'
  exact h.apart id id' o o' p p' hne a1 b1 a2 b2
section
variable {m : Nat} {ih : Cl} {e : En} {σ : Mem} {c : Kt} {res : Rs} {ρ : Pl} {env : Env} {w0 : Fm} {w : World} {full : Array Oper} {d : Tmp} {ty : TypeId} {pos : String} {af : Array Edge} (hr : res ≠ .no)
include hr
omit hr in
theorem xkO_some {a : AV} {k : IntKind} {v : Value} (h : xkO a = some k) (hv : AR ρ a v) : ∃ n : Nat, v = .int k (n : Int) ∧ n ≤ maxK k ∧ k.signed = false := by
 unfold xkO at h
 split at h
 ·injection h with h; subst h
  obtain ⟨p, _, h2, h3, h4⟩ := hv
  exact ⟨p.b, h2, h3, h4⟩
 ·cases h
omit hr in
theorem nkO_some {a : AV} {k : IntKind} {v : Value} (h : nkO a = some k) (hv : AR ρ a v) : ∃ n : Nat, v = .int k (n : Int) ∧ n ≤ maxK k := by
 unfold nkO at h
 split at h
 ·injection h with h; subst h
  obtain ⟨p, _, h2, h3, h4⟩ := hv
  exact ⟨p.b, h2, h3⟩
 ·injection h with h; subst h
  exact ⟨_, hv.1, hv.2⟩
 ·cases h
theorem onN_v {x : AV} {f : IntKind → Nat → Rs} {v : Value} (h : onN x f = res) (hv : AR ρ x v) : ∃ k, ∃ n : Nat, v = .int k (n : Int) ∧ f k n = res := by
 obtain ⟨k, n, rfl, h⟩ := onN_inv hr h
 exact ⟨k, n, hv.1, h⟩
variable (hM : MR w0 ρ σ w)
include hM
theorem newX_good {k : IntKind} (h : newX σ c k = res) (n : Nat) (hn : n ≤ maxK k) : Good w0 ρ c res env (some d) ((d, .int k (n : Int)) :: env) w := by
 obtain ⟨hk, h⟩ := okK_inv h hr
 obtain ⟨σ', h2, h3, h4, h⟩ := addK_inv hr h
 have hlast : (ρ ++ [(⟨n, 0, 0⟩ : At)])[σ.n]? = some ⟨n, 0, 0⟩ := by rw [← hM.len]; simp
 exact ⟨_, σ', _, _, h, Up.snoc ρ ⟨n, 0, 0⟩, ⟨_, hlast, rfl, hn, uns_sig hk⟩, hM.unk n h2 h3 h4, rfl⟩
omit hM in
theorem newX_uns {k : IntKind} (h : newX σ c k = res) : k.signed = false := uns_sig (okK_inv h hr).1
variable (hE : ER m ρ e env)
include hE
omit hM in
theorem xuW_inv {x y : Operand} {W : Wh} (h : (xuW m x y W).f ih e σ c = res) :
  (∃ (k : IntKind) (a b : Nat), evo env x = some (.int k (a : Int)) ∧ evo env y = some (.int k (b : Int)) ∧ a ≤ maxK k ∧ b ≤ maxK k ∧ newX σ c k = res) ∨ W.f ih e σ c = res := by
 obtain ⟨a, b, va, vb, h1, h2, h3, h4, h⟩ := two hr hE h
 unfold xuK at h
 split at h
 ·rename_i k hk
  obtain ⟨n, rfl, hn, _⟩ := xkO_some hk h3
  split at h
  ·rename_i k' hk'
   obtain ⟨q, rfl, hq⟩ := nkO_some hk' h4
   obtain ⟨e1, h9⟩ := kkK_inv hr h; subst e1
   exact .inl ⟨_, _, _, h1, h2, hn, hq, h9⟩
  ·exact absurd h.symm hr
 ·split at h
  ·rename_i k hk
   obtain ⟨n, rfl, hn, _⟩ := xkO_some hk h4
   split at h
   ·rename_i k' hk'
    obtain ⟨q, rfl, hq⟩ := nkO_some hk' h3
    obtain ⟨e1, h9⟩ := kkK_inv hr h; subst e1
    exact .inl ⟨_, _, _, h1, h2, hq, hn, h9⟩
   ·exact absurd h.symm hr
  ·exact .inr h
theorem x_ar {op : BinOp} {t yt : TypeId} {x y : Operand} {W : Wh} {g : Int → Int → Int} (ho : ∀ k a b w', (binOp op t (.int k a) (.int k b)).run Tryz.prog w' = .ok (.int k (k.wrap (g a b))) w')
  (old : W.f ih e σ c = res → xs Tryz.prog isI isS [] Eng.noH full (Good w0 ρ c res env (some d)) [⟨some d, .binOp op t x y yt, ty, pos, af, none⟩] env w)
  (h : (xuW m x y W).f ih e σ c = res) : xs Tryz.prog isI isS [] Eng.noH full (Good w0 ρ c res env (some d)) [⟨some d, .binOp op t x y yt, ty, pos, af, none⟩] env w := by
 rcases xuW_inv hr hE h with ⟨k, a, b, h1, h2, _, _, h⟩ | h
 ·obtain ⟨n, e1, hn⟩ := wrap_uns (newX_uns hr h) (g a b)
  refine x_bin h1 h2 (eqGuard_at_int ..) (fun w' => ho k _ _ w') ?_
  rw [e1]
  exact newX_good hr hM h n hn
 ·exact old h
theorem x_bit {op : BinOp} {t yt : TypeId} {x y : Operand} {W : Wh} {f : Nat → Nat → Nat} (ho : op = .and ∨ op = .or ∨ op = .xor) (hf : ∀ {k : IntKind} {a b : Nat}, a ≤ maxK k → b ≤ maxK k → bits op k a b = (f a b : Int) ∧ f a b ≤ maxK k)
  (old : W.f ih e σ c = res → xs Tryz.prog isI isS [] Eng.noH full (Good w0 ρ c res env (some d)) [⟨some d, .binOp op t x y yt, ty, pos, af, none⟩] env w)
  (h : (xuW m x y W).f ih e σ c = res) : xs Tryz.prog isI isS [] Eng.noH full (Good w0 ρ c res env (some d)) [⟨some d, .binOp op t x y yt, ty, pos, af, none⟩] env w := by
 rcases xuW_inv hr hE h with ⟨k, a, b, h1, h2, ha, hb, h⟩ | h
 ·obtain ⟨e1, hn⟩ := hf ha hb
  exact xbits h1 h2 ho e1 (newX_good hr hM h _ hn)
 ·exact old h
theorem x_rem {t yt : TypeId} {x y : Operand} {W : Wh}
  (old : W.f ih e σ c = res → xs Tryz.prog isI isS [] Eng.noH full (Good w0 ρ c res env (some d)) [⟨some d, .binOp .rem t x y yt, ty, pos, af, none⟩] env w)
  (h : (xrW m x y W).f ih e σ c = res) : xs Tryz.prog isI isS [] Eng.noH full (Good w0 ρ c res env (some d)) [⟨some d, .binOp .rem t x y yt, ty, pos, af, none⟩] env w := by
 obtain ⟨a, b, va, vb, h1, h2, h3, h4, h'⟩ := two hr hE (show ((gtW m x).f e fun a => (gtW m y).f e fun b => xrK σ c (W.f ih e σ c) a b) = res from h)
 unfold xrK at h'
 split at h'
 ·rename_i k hk
  obtain ⟨n, rfl, hn, _⟩ := xkO_some hk h3
  obtain ⟨k', q, rfl, h5⟩ := onN_v hr h' h4
  obtain ⟨e1, h9⟩ := kkK_inv hr h5; subst e1
  obtain ⟨hq, h5⟩ := okK_inv h9 hr
  have hq := Nat.le_of_ble_eq_true hq
  have hle : n % q ≤ maxK k := Nat.le_trans (Nat.mod_le _ _) hn
  exact xdv (r := ((n % q : Nat) : Int)) h1 h2 (by simp [dvI]) (by omega) (by omega) (wrap_id hn) (newX_good hr hM h5 _ hle)
 ·exact old h'
omit hM in
theorem xsW_inv {x y : Operand} {W : Wh} (h : (xsW m x y W).f ih e σ c = res) :
  (∃ (k k' : IntKind) (a b : Nat), evo env x = some (.int k (a : Int)) ∧ evo env y = some (.int k' (b : Int)) ∧ a ≤ maxK k ∧ b ≤ k.bits ∧ newX σ c k = res) ∨ W.f ih e σ c = res := by
 obtain ⟨a, b, va, vb, h1, h2, h3, h4, h⟩ := two hr hE h
 unfold xsK at h
 split at h
 ·rename_i k hk
  obtain ⟨n, rfl, hn, _⟩ := xkO_some hk h3
  obtain ⟨k', q, rfl, h5⟩ := onN_v hr h h4
  obtain ⟨hq, h5⟩ := okK_inv h5 hr
  have hq := Nat.le_of_ble_eq_true hq
  rw [kb_eq] at hq
  exact .inl ⟨_, _, _, _, h1, h2, hn, hq, h5⟩
 ·exact .inr h
theorem x_shl {t yt : TypeId} {x y : Operand} {W : Wh}
  (old : W.f ih e σ c = res → xs Tryz.prog isI isS [] Eng.noH full (Good w0 ρ c res env (some d)) [⟨some d, .binOp .shl t x y yt, ty, pos, af, none⟩] env w)
  (h : (xsW m x y W).f ih e σ c = res) : xs Tryz.prog isI isS [] Eng.noH full (Good w0 ρ c res env (some d)) [⟨some d, .binOp .shl t x y yt, ty, pos, af, none⟩] env w := by
 rcases xsW_inv hr hE h with ⟨k, k', a, b, h1, h2, ha, hb, h⟩ | h
 ·obtain ⟨n, e1, hn⟩ := wrap_uns (newX_uns hr h) ((a : Int) * 2 ^ (b : Int).toNat)
  exact xshl h1 h2 (by omega) (by omega) e1 (newX_good hr hM h n hn)
 ·exact old h
theorem x_shr {t yt : TypeId} {x y : Operand} {W : Wh}
  (old : W.f ih e σ c = res → xs Tryz.prog isI isS [] Eng.noH full (Good w0 ρ c res env (some d)) [⟨some d, .binOp .shr t x y yt, ty, pos, af, none⟩] env w)
  (h : (xsW m x y W).f ih e σ c = res) : xs Tryz.prog isI isS [] Eng.noH full (Good w0 ρ c res env (some d)) [⟨some d, .binOp .shr t x y yt, ty, pos, af, none⟩] env w := by
 rcases xsW_inv hr hE h with ⟨k, k', a, b, h1, h2, ha, hb, h⟩ | h
 ·refine xshr h1 h2 (by omega) (by omega) ?_
  have e1 : ((a : Int) / 2 ^ (b : Int).toNat) = ((a / 2 ^ b : Nat) : Int) := by simp
  rw [e1]
  exact newX_good hr hM h _ (Nat.le_trans (Nat.div_le_self _ _) ha)
 ·exact old h
end
theorem slS_some {ρ : Pl} {a : AV} {l : List Nat} {v : Value} (h : slS a = some l) (hv : AR ρ a v) : v = .string (su (l.map (ucOf ρ))) ∧ (∀ q ∈ l, q < 256 ∨ ∃ p, ρ[q - 256]? = some p ∧ p.b < 256) ∧ l.length ≤ maxLen := by
 unfold slS at h
 split at h
 ·injection h with h; subst h
  exact hv
 ·rename_i l'
  injection h with h; subst h
  obtain ⟨h1, h2, h3⟩ := hv
  refine ⟨?_, fun q hq => .inl (h2 q hq), h3⟩
  rw [h1]
  refine congrArg (fun r => Value.string (su r)) (List.map_congr_left fun q hq => ?_)
  simp [ucOf, h2 q hq]
 ·cases h
theorem slO_some {a : AV} {l : List Nat} (h : slO a = some l) : a = .v (.sl l) := by
 unfold slO at h
 split at h
 ·injection h with h; subst h; rfl
 ·cases h
section
variable {m : Nat} {ih : Cl} {e : En} {σ : Mem} {c : Kt} {res : Rs} {ρ : Pl} {env : Env} {w0 : Fm} {w : World} {full : Array Oper} {d : Tmp} {ty : TypeId} {pos : String} {af : Array Edge} (hr : res ≠ .no) (hE : ER m ρ e env) (hM : MR w0 ρ σ w)
include hr hE hM
theorem x_la {t yt : TypeId} {x y : Operand} {W : Wh}
  (old : W.f ih e σ c = res → xs Tryz.prog isI isS [] Eng.noH full (Good w0 ρ c res env (some d)) [⟨some d, .binOp .add t x y yt, ty, pos, af, none⟩] env w)
  (h : (laW m x y W).f ih e σ c = res) : xs Tryz.prog isI isS [] Eng.noH full (Good w0 ρ c res env (some d)) [⟨some d, .binOp .add t x y yt, ty, pos, af, none⟩] env w := by
 obtain ⟨a, b, va, vb, h1, h2, h3, h4, h⟩ := two hr hE (show ((gtW m x).f e fun a => (gtW m y).f e fun b => laK σ c (W.f ih e σ c) a b) = res from h)
 have key : slK σ c a b = res → xs Tryz.prog isI isS [] Eng.noH full (Good w0 ρ c res env (some d)) [⟨some d, .binOp .add t x y yt, ty, pos, af, none⟩] env w := fun h => by
  unfold slK at h
  split at h
  ·rename_i l r hl hr'
   obtain ⟨rfl, a1, a2⟩ := slS_some hl h3
   obtain ⟨rfl, b1, b2⟩ := slS_some hr' h4
   obtain ⟨hq, h⟩ := okK_inv h hr
   have hq := Nat.le_of_ble_eq_true hq
   rw [fP_eq] at h
   have h9 : (l.map (ucOf ρ)).length + (r.map (ucOf ρ)).length ≤ maxLen := by simpa only [List.length_map, List.length_append] using hq
   refine xuadd h1 h2 h9 ⟨_, σ, ρ, _, h, Up.refl ρ, ⟨by simp, fun q hq => ?_, hq⟩, hM, rfl⟩
   rcases List.mem_append.1 hq with hq | hq
   ·exact a1 q hq
   ·exact b1 q hq
  ·exact absurd h.symm hr
 unfold laK at h
 split at h
 ·exact old h
 ·exact key h
end
end Rn
end Eng
end Go.Proofs.YtpfelapckcojjaaGreatDoor
namespace Go.Proofs.YtpfelapckcojjaaGreatDoor
open Go.RowKit
namespace Eng
namespace Rn
theorem eN_inv {k k' : IntKind} {b r : Bool} (h : eN k k' b = some r) : k = k' ∧ b = r := by
 unfold eN at h
 cases hb : Nat.beq (kn k) (kn k') with
 | false => rw [hb] at h; cases h
 | true =>
  rw [hb] at h
  injection h with h
  refine ⟨?_, h⟩
  cases k <;> cases k' <;> first | rfl | cases hb
theorem int_beq (a b : Nat) : (Int.ofNat a == Int.ofNat b) = decide (a = b) := by
 by_cases h : a = b
 ·subst h; simp
 ·have : ¬ (a : Int) = (b : Int) := fun e => h (Int.ofNat.inj e)
  simp [h, this]
theorem neg_beq (a b : Nat) : (Int.negSucc a == Int.negSucc b) = decide (a = b) := by
 by_cases h : a = b
 ·subst h; simp
 ·have : ¬ Int.negSucc a = Int.negSucc b := fun e => h (Int.negSucc.inj e)
  simp [h, this]
theorem eF_run {ρ : Pl} {f : Bool} {x y : SV} {u v : Value} {r : Bool} {t : TypeId} (h : eF f x y = some r) (hx : SR ρ x u) (hy : SR ρ y v) (ht : (f = true ∧ isS t = true) ∨ (f = false ∧ ∃ k, kindOf t = some k)) (dd : Nat) (w' : World) : (Op.equalIn (dd + 1) t u v).run Tryz.prog w' = .ok r w' := by
 have hi : ∀ (k : IntKind) (a b : Int), (∃ k, kindOf t = some k) → (Op.equalIn (dd + 1) t (.int k a) (.int k b)).run Tryz.prog w' = .ok (a == b) w' := fun k a b hk => by
  obtain ⟨k0, hk⟩ := hk
  exact run_equalIn_int w' dd t k k0 a b (kind_spec hk)
 rcases ht with ⟨rfl, ht⟩ | ⟨rfl, ht⟩
 ·cases x with
  | s a =>
   cases y with
   | s b =>
    have h : some (eU a b) = some r := h
    injection h with h
    obtain ⟨rfl, ha, hm⟩ := hx
    obtain ⟨rfl, hb, hm'⟩ := hy
    rw [run_equalIn_string w' dd t _ _ (str_spec ht), su_list, su_list, beq_dec, ← eU_eq ha hb, h]
   | _ => cases h
  | _ => cases h
 ·cases x with
  | n k a =>
   cases y with
   | n k' b =>
    obtain ⟨ek, h9⟩ := eN_inv (show eN k k' (Nat.beq a b) = some r from h)
    subst ek
    rw [hx.1, hy.1, hi k _ _ ht, ← h9, beq_dcd]
    exact congrArg (Result.ok · w') (int_beq a b)
   | m k' b =>
    obtain ⟨ek, h9⟩ := eN_inv (show eN k k' (false) = some r from h)
    subst ek
    rw [hx.1, hy.1, hi k _ _ ht, ← h9]
    rfl
   | _ => cases h
  | m k a =>
   cases y with
   | n k' b =>
    obtain ⟨ek, h9⟩ := eN_inv (show eN k k' (false) = some r from h)
    subst ek
    rw [hx.1, hy.1, hi k _ _ ht, ← h9]
    rfl
   | m k' b =>
    obtain ⟨ek, h9⟩ := eN_inv (show eN k k' (Nat.beq a b) = some r from h)
    subst ek
    rw [hx.1, hy.1, hi k _ _ ht, ← h9, beq_dcd]
    exact congrArg (Result.ok · w') (neg_beq a b)
   | _ => cases h
  | _ => cases h
theorem eT_cons {f : Bool} {fl : List Bool} {a b : List SV} {r : Bool} (h : eT (f :: fl) a b = some r) : ∃ x a' y b' p q, a = x :: a' ∧ b = y :: b' ∧ eF f x y = some p ∧ eT fl a' b' = some q ∧ r = (p && q) := by
 cases a with
 | nil => cases b <;> cases h
 | cons x a =>
  cases b with
  | nil => cases h
  | cons y b =>
   have h' : (match eF f x y, eT fl a b with
    | some p, some q => some (p && q)
    | _, _ => none) = some r := h
   split at h'
   ·rename_i p q h1 h2
    injection h' with h'
    exact ⟨x, a, y, b, p, q, rfl, rfl, h1, h2, h'.symm⟩
   ·cases h'
theorem drop_head {α : Type} {xs : List α} {k : Nat} {v : α} {r : List α} (h : xs.drop k = v :: r) : xs[k]? = some v ∧ xs.drop (k + 1) = r := by
 have h1 : (xs.drop k)[0]? = some v := by rw [h]; rfl
 refine ⟨by simpa using h1, ?_⟩
 rw [← List.drop_drop, h]
 rfl
theorem fields_run {ρ : Pl} {xs ys : List Value} (dd : Nat) (w' : World) : ∀ {fs : List Field} {k : Nat} {fl : List Bool} {la lb : List SV} {va vb : List Value} {r : Bool}, flat fs k = some fl → SRs ρ la va → SRs ρ lb vb → xs.drop k = va → ys.drop k = vb → eT fl la lb = some r → (Op.eqFields (dd + 1) xs.toArray ys.toArray fs).run Tryz.prog w' = .ok r w'
 | [], k, fl, la, lb, va, vb, r, hf, ha, hb, hxa, hyb, h => by
  obtain rfl := Option.some.inj hf
  cases la with
  | nil =>
   cases lb with
   | nil =>
    have h : some true = some r := h
    obtain rfl := Option.some.inj h; simp [Op.eqFields]
   | cons _ _ => cases h
  | cons _ _ => cases lb <;> cases h
 | f :: fs, k, fl, la, lb, va, vb, r, hf, ha, hb, hxa, hyb, h => by
  have hf' : (match Nat.beq f.offset k && f.name != "_" && Tryz.prog.plainKey f.type, flat fs (Nat.add k 1) with
   | true, some r => match kindOf f.type, isS f.type with
    | some _, _ => some (false :: r)
    | none, true => some (true :: r)
    | none, false => none
   | _, _ => none) = some fl := hf
  split at hf'
  ·rename_i r0 hc hr0
   simp only [Bool.and_eq_true, bne_iff_ne, ne_eq] at hc
   obtain ⟨⟨hoff, hn⟩, hp⟩ := hc
   have hoff := Nat.eq_of_beq_eq_true hoff
   have key : ∃ g, fl = g :: r0 ∧ ((g = true ∧ isS f.type = true) ∨ (g = false ∧ ∃ k, kindOf f.type = some k)) := by
    split at hf'
    ·rename_i k0 hk0; injection hf' with hf'; exact ⟨false, hf'.symm, .inr ⟨rfl, _, hk0⟩⟩
    ·rename_i hs0; injection hf' with hf'; exact ⟨true, hf'.symm, .inl ⟨rfl, hs0⟩⟩
    ·cases hf'
   obtain ⟨g, rfl, hg⟩ := key
   obtain ⟨x, a', y, b', p, q, rfl, rfl, h1, h2, rfl⟩ := eT_cons h
   cases ha with
   | cons hx1 ha =>
    cases hb with
    | cons hy1 hb =>
     obtain ⟨gx, dx⟩ := drop_head hxa
     obtain ⟨gy, dy⟩ := drop_head hyb
     rw [← hoff] at gx gy
     have ih := fields_run dd w' (fs := fs) (k := k + 1) hr0 ha hb dx dy h2
     have he := eF_run h1 hx1.2 hy1.2 hg dd w'
     rw [Op.eqFields, if_pos hn]
     simp only [Sem.run_bind, run_part_plain w' hp (xs := xs.toArray) (by simpa using gx), run_part_plain w' hp (xs := ys.toArray) (by simpa using gy), Result.andThen_ok, he]
     cases p <;> simp [ih]
  ·cases hf'
theorem items_run {ρ : Pl} {xs ys : List Value} {e : TypeId} (hk : ∃ k, kindOf e = some k) (hp : Tryz.prog.plainKey e = true) (dd : Nat) (w' : World) : ∀ {n k : Nat} {la lb : List SV} {va vb : List Value} {r : Bool}, SRs ρ la va → SRs ρ lb vb → xs.drop k = va → ys.drop k = vb → eT (List.replicate n false) la lb = some r → (Op.eqItems (dd + 1) e 1 xs.toArray ys.toArray (List.range' k n)).run Tryz.prog w' = .ok r w'
 | 0, k, la, lb, va, vb, r, ha, hb, hxa, hyb, h => by
  cases la with
  | nil =>
   cases lb with
   | nil =>
    have h : some true = some r := h
    obtain rfl := Option.some.inj h; simp [Op.eqItems]
   | cons _ _ => cases h
  | cons _ _ => cases lb <;> cases h
 | n + 1, k, la, lb, va, vb, r, ha, hb, hxa, hyb, h => by
  rw [List.replicate_succ] at h
  obtain ⟨x, a', y, b', p, q, rfl, rfl, h1, h2, rfl⟩ := eT_cons h
  cases ha with
  | cons hx1 ha =>
   cases hb with
   | cons hy1 hb =>
    obtain ⟨gx, dx⟩ := drop_head hxa
    obtain ⟨gy, dy⟩ := drop_head hyb
    have ih := items_run hk hp dd w' (n := n) (k := k + 1) ha hb dx dy h2
    have he := eF_run h1 hx1.2 hy1.2 (.inr ⟨rfl, hk⟩) dd w'
    rw [List.range'_succ]
    simp only [Op.eqItems, Nat.mul_one, Sem.run_bind, run_part_plain w' hp (xs := xs.toArray) (off := k) (by simpa using gx), run_part_plain w' hp (xs := ys.toArray) (off := k) (by simpa using gy), Result.andThen_ok, he]
    cases p <;> simp [ih]
theorem peq_run {ρ : Pl} {t : TypeId} {fl : List Bool} (h : peq t = some fl) {la lb : List SV} {va vb : List Value} {r : Bool} (ha : SRs ρ la va) (hb : SRs ρ lb vb) (he : eT fl la lb = some r) (w' : World) : Tryz.prog.eqGuardType Tryz.prog.depth t = false ∧ (Op.equalIn 10000 t (.agg va.toArray) (.agg vb.toArray)).run Tryz.prog w' = .ok r w' := by
 unfold peq at h
 split at h
 ·cases h
 ·rename_i h1
  refine ⟨h1, ?_⟩
  split at h
  ·cases h
  ·rename_i h2
   split at h
   ·rename_i fs h3
    have hf : Tryz.prog.fieldsOf t = fs := by
     unfold Program.fieldsOf
     rw [h3]
    rw [run_equalIn_agg w' 9999 t _ _ (by rw [hf]; exact h3) h2, hf]
    exact fields_run 9998 w' (xs := va) (ys := vb) h ha hb rfl rfl he
   ·rename_i n e h3
    split at h
    ·rename_i hc
     obtain rfl := Option.some.inj h
     simp only [Bool.and_eq_true] at hc
     obtain ⟨⟨hk, ho⟩, hp⟩ := hc
     obtain ⟨_, i, hi, hs⟩ := one_spec ho
     have hcell : Tryz.prog.cellsOf e = 1 := by
      unfold Program.cellsOf
      rw [hi]
      exact hs
     rw [run_equalIn_array w' 9999 _ _ h3 hi, hcell, List.range_eq_range']
     exact items_run (Option.isSome_iff_exists.1 hk) hp 9998 w' (xs := va) (ys := vb) ha hb rfl rfl he
    ·cases h
   ·cases h
def ptrEq : Option Addr → Option Addr → Option Bool
 | none, b => some b.isNone
 | some _, none => some false
 | some _, some _ => none
theorem eqp_run {t el : TypeId} {r : Bool} (ht : Tryz.prog.underlying t = some (.pointer el)) (dd : Nat) (a b : Option Addr) (hr : ptrEq a b = some r) (w' : World) : (Op.equalIn (dd + 1) t (.pointer a) (.pointer b)).run Tryz.prog w' = .ok r w' := by
 cases a with
 | none =>
  obtain rfl := Option.some.inj hr
  cases b <;> simp [Op.equalIn, run_underlying ht]
 | some a =>
  cases b with
  | none =>
   obtain rfl := Option.some.inj hr
   simp [Op.equalIn, run_underlying ht]
  | some b => cases hr
theorem eqj_run {t : TypeId} {ms : Array (String × TypeId)} (ht : Tryz.prog.underlying t = some (.interface ms)) (d : Nat) (w : World) : (Op.equalIn (d + 1) t .nilIface .nilIface).run Tryz.prog w = .ok true w := by simp [Op.equalIn, run_underlying ht]
theorem eqs_run {t el : TypeId} (ht : Tryz.prog.underlying t = some (.slice el)) (dd : Nat) (A : Option Addr) (n k n' k' : Nat) (w' : World) : (Op.equalIn (dd + 1) t (.slice A n k) (.slice none n' k')).run Tryz.prog w' = .ok A.isNone w' := by
 cases A <;> simp [Op.equalIn, run_underlying ht]
theorem run_flt {op : BinOp} {t : TypeId} {a b : Nat} {r : Bool} (h : binOp op t (.float .f64 (fw a)) (.float .f64 (fw b)) = pure (.bool r)) {r' : Bool} (hr : r = r') (w' : World) : (binOp op t (.float .f64 (fw a)) (.float .f64 (fw b))).run Tryz.prog w' = .ok (.bool r') w' := by
 rw [h, hr]; rfl
theorem flt_ord {a b : Nat} (ha : a ≤ 1099511627776) (hb : b ≤ 1099511627776) : FloatKind.f64.format.order (fw a) (fw b) = some (compare a b) := fw_ord (by omega) (by omega)
theorem cmp_lt {a b : Nat} : (compare a b == .lt) = decide ((a : Int) < (b : Int)) := by
 rcases Nat.lt_trichotomy a b with h | h | h
 ·rw [Nat.compare_eq_lt.2 h, decide_eq_true (by omega)]; rfl
 ·rw [Nat.compare_eq_eq.2 h, decide_eq_false (by omega)]; rfl
 ·rw [Nat.compare_eq_gt.2 h, decide_eq_false (by omega)]; rfl
theorem cmp_gt {a b : Nat} : (compare a b == .gt) = decide ((b : Int) < (a : Int)) := by
 rcases Nat.lt_trichotomy a b with h | h | h
 ·rw [Nat.compare_eq_lt.2 h, decide_eq_false (by omega)]; rfl
 ·rw [Nat.compare_eq_eq.2 h, decide_eq_false (by omega)]; rfl
 ·rw [Nat.compare_eq_gt.2 h, decide_eq_true (by omega)]; rfl
theorem cmp_eq {a b : Nat} : (compare a b == .eq) = decide ((a : Int) = (b : Int)) := by
 rcases Nat.lt_trichotomy a b with h | h | h
 ·rw [Nat.compare_eq_lt.2 h, decide_eq_false (by omega)]; rfl
 ·rw [Nat.compare_eq_eq.2 h, decide_eq_true (by omega)]; rfl
 ·rw [Nat.compare_eq_gt.2 h, decide_eq_false (by omega)]; rfl
section
variable {m : Nat} {ih : Cl} {e : En} {σ : Mem} {c : Kt} {res : Rs} {ρ : Pl} {env : Env} {w0 : Fm} {w : World} {full : Array Oper} {d : Tmp} {ty : TypeId} {pos : String} {af : Array Edge} (hr : res ≠ .no) (hE : ER m ρ e env) (hM : MR w0 ρ σ w)
def eqOp (q : Bool) : BinOp := match q with
 | true => .eql
 | false => .neq
include hM
theorem x_eq {q r : Bool} {t yt : TypeId} {x y : Operand} {va vb : Value} (h1 : evo env x = some va) (h2 : evo env y = some vb) (hg : eqGuard (eqOp q) t x y va vb = pure ()) (hn : binOp .eql t va vb = (do pure (.bool (← Op.equal t va vb)))) (hn' : binOp .neq t va vb = (do pure (.bool (!(← Op.equal t va vb)))))
  (he : ∀ w', (Op.equalIn (9999 + 1) t va vb).run Tryz.prog w' = .ok r w') (h : c (.v (.b (q == r))) σ = res) : xs Tryz.prog isI isS [] Eng.noH full (Good w0 ρ c res env (some d)) [⟨some d, .binOp (eqOp q) t x y yt, ty, pos, af, none⟩] env w := by
 refine x_bin (v := .bool (q == r)) h1 h2 hg (fun w' => ?_) ⟨_, σ, ρ, _, h, Up.refl ρ, rfl, hM, rfl⟩
 have he' : (Op.equal t va vb).run Tryz.prog w' = .ok r w' := he w'
 cases q with
 | true =>
  show (binOp .eql t va vb).run Tryz.prog w' = _
  rw [hn]
  simp [he']
 | false =>
  show (binOp .neq t va vb).run Tryz.prog w' = _
  rw [hn']
  simp [he']
include hr hE
theorem s_eqC {q : Bool} {t yt : TypeId} {x y : Operand} (ht : Tryz.prog.underlying t = some .bool) (h : (eq2 (eqC q) m x y).f ih e σ c = res) : xs Tryz.prog isI isS [] Eng.noH full (Good w0 ρ c res env (some d)) [⟨some d, .binOp (eqOp q) t x y yt, ty, pos, af, none⟩] env w := by
 obtain ⟨a, b, va, vb, h1, h2, h3, h4, h⟩ := two hr hE h
 have key : ∀ p r : Bool, va = .bool p → vb = .bool r → c (.v (.b (q == (p == r)))) σ = res → xs Tryz.prog isI isS [] Eng.noH full (Good w0 ρ c res env (some d)) [⟨some d, .binOp (eqOp q) t x y yt, ty, pos, af, none⟩] env w := fun p r e1 e2 h => by
  subst e1; subst e2
  exact x_eq hM h1 h2 (eqGuard_at_bool ..) rfl rfl (fun w' => run_equalIn_bool w' 9999 t p r ht) h
 rcases onB_inv hr h with ⟨e1, h5⟩ | ⟨e1, h5⟩ <;> rcases onB_inv hr h5 with ⟨e2, h6⟩ | ⟨e2, h6⟩ <;> rw [bK_eq] at h6 <;> subst e1 <;> subst e2
 ·exact key true true h3 h4 (by cases q <;> exact h6)
 ·exact key true false h3 h4 (by cases q <;> exact h6)
 ·exact key false true h3 h4 (by cases q <;> exact h6)
 ·exact key false false h3 h4 (by cases q <;> exact h6)
theorem s_eqQ {q : Bool} {t yt el : TypeId} {x y : Operand} (ht : Tryz.prog.underlying t = some (.pointer el)) (h : (eq2 (eqQ q) m x y).f ih e σ c = res) : xs Tryz.prog isI isS [] Eng.noH full (Good w0 ρ c res env (some d)) [⟨some d, .binOp (eqOp q) t x y yt, ty, pos, af, none⟩] env w := by
 obtain ⟨a, b, va, vb, h1, h2, h3, h4, h⟩ := two hr hE h
 rcases onQ_inv hr h with ⟨e3, h5⟩ | ⟨id, o, e3, h5⟩ <;> rcases onQ_inv hr h5 with ⟨e4, h6⟩ | ⟨id', o', e4, h6⟩ <;> subst e3 <;> subst e4
 ·have e1 : va = .pointer none := h3
  have e2 : vb = .pointer none := h4
  subst e1; subst e2
  rw [bK_eq] at h6
  exact x_eq (r := true) hM h1 h2 (by cases q <;> simp [eqGuard, eqOp]) rfl rfl (fun w' => eqp_run ht 9999 _ _ rfl w') (by cases q <;> exact h6)
 ·obtain ⟨p, _, rfl⟩ := h4
  have e1 : va = .pointer none := h3
  subst e1
  rw [bK_eq] at h6
  exact x_eq (r := false) hM h1 h2 (by cases q <;> simp [eqGuard, eqOp]) rfl rfl (fun w' => eqp_run ht 9999 _ _ rfl w') (by cases q <;> exact h6)
 ·obtain ⟨p, _, rfl⟩ := h3
  have e2 : vb = .pointer none := h4
  subst e2
  rw [bK_eq] at h6
  exact x_eq (r := false) hM h1 h2 (by cases q <;> simp [eqGuard, eqOp]) rfl rfl (fun w' => eqp_run ht 9999 _ _ rfl w') (by cases q <;> exact h6)
 ·exact absurd h6.symm hr
theorem s_eqJ {q : Bool} {t yt : TypeId} {x y : Operand} {ms : Array (String × TypeId)} (ht : Tryz.prog.underlying t = some (.interface ms)) (h : (eqJW q m x y).f ih e σ c = res) : xs Tryz.prog isI isS [] Eng.noH full (Good w0 ρ c res env (some d)) [⟨some d, .binOp (eqOp q) t x y yt, ty, pos, af, none⟩] env w := by
 unfold eqJW at h
 split at h
 ·obtain ⟨a, v, h1, h2, h3⟩ := gtW_inv hr hE h
  obtain ⟨e3, h6⟩ := onJ_inv hr h3
  subst e3
  have e1 : v = .nilIface := h2
  subst e1
  rw [bK_eq] at h6
  exact x_eq (r := true) hM h1 rfl (by cases q <;> cases x <;> rfl) rfl rfl (fun w' => eqj_run ht 9999 w') (by cases q <;> exact h6)
 ·exact absurd h.symm hr
theorem s_eqZ {q : Bool} {t yt el : TypeId} {x y : Operand} (ht : Tryz.prog.underlying t = some (.slice el)) (h : (eq2 (eqZ q) m x y).f ih e σ c = res) : xs Tryz.prog isI isS [] Eng.noH full (Good w0 ρ c res env (some d)) [⟨some d, .binOp (eqOp q) t x y yt, ty, pos, af, none⟩] env w := by
 obtain ⟨a, b, va, vb, h1, h2, h3, h4, h⟩ := two hr hE h
 rcases onL_inv hr h with ⟨e3, h5⟩ | ⟨id, z, j, n, e3, h5⟩ | ⟨id, z, j, n, k, e3, h5⟩ | ⟨_, _, _, _, e3, h5⟩ | ⟨l, e3, h5⟩ | ⟨id, o, e3, h5⟩
 ·subst e3
  have e2 : vb = .slice none 0 0 := h4
  subst e2
  have key : ∀ (A : Option Addr) (n k : Nat), va = .slice A n k → c (.v (.b (q == A.isNone))) σ = res → xs Tryz.prog isI isS [] Eng.noH full (Good w0 ρ c res env (some d)) [⟨some d, .binOp (eqOp q) t x y yt, ty, pos, af, none⟩] env w := fun A n k e1 h => by
   subst e1
   exact x_eq (r := A.isNone) hM h1 h2 (eqGuard_at_slice ..) rfl rfl (fun w' => eqs_run ht 9999 _ _ _ _ _ w') h
  rcases onL_inv hr h5 with ⟨e4, h6⟩ | ⟨id, z, j, n, e4, h6⟩ | ⟨id, z, j, n, k, e4, h6⟩ | ⟨_, _, _, _, e4, h6⟩ | ⟨l, e4, h6⟩ | ⟨id, o, e4, h6⟩ <;> subst e4
  ·rw [bK_eq] at h6
   exact key none 0 0 h3 (by cases q <;> exact h6)
  ·obtain ⟨p, _, _, _, _, rfl⟩ := h3
   rw [bK_eq] at h6
   exact key _ _ _ rfl (by cases q <;> exact h6)
  ·obtain ⟨p, _, _, _, rfl⟩ := h3
   rw [bK_eq] at h6
   exact key _ _ _ rfl (by cases q <;> exact h6)
  ·exact absurd h6.symm hr
  ·exact absurd h6.symm hr
  ·exact absurd h6.symm hr
 ·exact absurd h5.symm hr
 ·exact absurd h5.symm hr
 ·exact absurd h5.symm hr
 ·exact absurd h5.symm hr
 ·exact absurd h5.symm hr
theorem s_eqG {q : Bool} {t yt : TypeId} {fl : List Bool} {x y : Operand} (ht : peq t = some fl) (h : (eq2 (eqG fl q) m x y).f ih e σ c = res) : xs Tryz.prog isI isS [] Eng.noH full (Good w0 ρ c res env (some d)) [⟨some d, .binOp (eqOp q) t x y yt, ty, pos, af, none⟩] env w := by
 obtain ⟨a, b, va, vb, h1, h2, h3, h4, h⟩ := two hr hE h
 obtain ⟨la, e1, h5⟩ := onG_inv hr h
 obtain ⟨lb, e2, h6⟩ := onG_inv hr h5
 clear h h5
 subst e1; subst e2
 have h := h6
 obtain ⟨vas, hva, rfl⟩ := h3
 obtain ⟨vbs, hvb, rfl⟩ := h4
 unfold oB at h
 split at h
 ·rename_i r he
  rw [bK_eq, eB_eq] at h
  have hp := fun w' => peq_run ht hva hvb he w'
  refine x_gen rfl (by simp [opsOK, Op.operands, h1, h2]) ⟨.bool (q == r), fun w' => ?_, _, σ, ρ, _, h, Up.refl ρ, rfl, hM, rfl⟩
  have e1 := run_eqGuard_agg (P := Tryz.prog) w' (eqOp q) t x y vas.toArray vbs.toArray (hp w').1
  have e2 : (binOp (eqOp q) t (.agg vas.toArray) (.agg vbs.toArray)).run Tryz.prog w' = .ok (.bool (q == r)) w' := by
   cases q with
   | true =>
    show (binOp .eql t _ _).run Tryz.prog w' = _
    rw [run_eql_struct w', (hp w').2]
    cases r <;> rfl
   | false =>
    show (binOp .neq t _ _).run Tryz.prog w' = _
    rw [run_neq_struct w', (hp w').2]
    cases r <;> rfl
  simp [execOp, ev_of h1, ev_of h2, e1, e2]
 ·exact absurd h.symm hr
theorem s_eq {q : Bool} {t yt : TypeId} {x y : Operand} (h : (eqW q m t x y).f ih e σ c = res) : xs Tryz.prog isI isS [] Eng.noH full (Good w0 ρ c res env (some d)) [⟨some d, .binOp (eqOp q) t x y yt, ty, pos, af, none⟩] env w := by
 have hcm : (cmW eI eU q m x y).f ih e σ c = res → xs Tryz.prog isI isS [] Eng.noH full (Good w0 ρ c res env (some d)) [⟨some d, .binOp (eqOp q) t x y yt, ty, pos, af, none⟩] env w := fun h => by
  refine s_cm hr hE hM (fun k a b w' => ?_) (fun a b ha hb => ?_) (fun a b ha hb w' => ?_) h
  ·rw [eI_eq]
   cases q with
   | true => simp [eqOp, binOp, Op.intCmp]; by_cases hh : a = b <;> simp [hh]
   | false => simp [eqOp, binOp, Op.intCmp]; by_cases hh : a = b <;> simp [hh]
  ·rw [eU_eq ha hb]
   cases q with
   | true => simp [eqOp, cmpU]
   | false => simp [eqOp, cmpU]
  ·rw [eI_eq]
   cases q with
   | true => exact run_flt (r := compare a b == .eq) (by simp [eqOp, binOp, Op.floatCmp, flt_ord ha hb]) (by rw [cmp_eq]; cases decide ((a : Int) = (b : Int)) <;> rfl) w'
   | false => exact run_flt (r := compare a b != .eq) (by simp [eqOp, binOp, Op.floatCmp, flt_ord ha hb]; cases compare a b <;> rfl) (by show (!(compare a b == .eq)) = _; rw [cmp_eq]; cases decide ((a : Int) = (b : Int)) <;> rfl) w'
 unfold eqW at h
 split at h
 ·rename_i ht; exact s_eqC hr hE hM ht h
 ·rename_i el ht; exact s_eqQ hr hE hM ht h
 ·rename_i el ht; exact s_eqZ hr hE hM ht h
 ·rename_i ms ht; exact s_eqJ hr hE hM ht h
 ·split at h
  ·rename_i hp; exact s_eqG hr hE hM hp h
  ·exact absurd h.symm hr
 ·split at h
  ·rename_i hp; exact s_eqG hr hE hM hp h
  ·exact absurd h.symm hr
 ·exact hcm h
theorem s_bin {op : BinOp} {t yt : TypeId} {x y : Operand} (h : (biW m t op x y).f ih e σ c = res) : xs Tryz.prog isI isS [] Eng.noH full (Good w0 ρ c res env (some d)) [⟨some d, .binOp op t x y yt, ty, pos, af, none⟩] env w := by
 cases op with
 | add => exact x_ar (g := fun a b => a + b) hr hM hE (fun k a b w' => by simp [binOp, Op.intArith]) (x_la hr hE hM (s_add hr hE hM)) h
 | sub => exact s_sub hr hE hM h
 | mul => exact x_ar (g := Int.mul) hr hM hE (fun k a b w' => by simp [binOp, Op.intArith]) (s_ar hr hE hM (fun k a b w' => by simp [binOp, Op.intArith]) (fun a b => rfl)) h
 | quo => exact s_quo hr hE hM h
 | rem => exact x_rem hr hM hE (s_rem hr hE hM) h
 | and => exact s_bit hr hE hM (.inl rfl) (fun ha hb => ⟨(nbits ha hb).1, (nbits ha hb).2.2.2.1⟩) h
 | or => exact x_bit hr hM hE (.inr (.inl rfl)) (fun ha hb => ⟨(nbits ha hb).2.1, (nbits ha hb).2.2.2.2.1⟩) (s_bit hr hE hM (.inr (.inl rfl)) (fun ha hb => ⟨(nbits ha hb).2.1, (nbits ha hb).2.2.2.2.1⟩)) h
 | xor => exact x_bit hr hM hE (.inr (.inr rfl)) (fun ha hb => ⟨(nbits ha hb).2.2.1, (nbits ha hb).2.2.2.2.2⟩) (s_bit hr hE hM (.inr (.inr (.inl rfl))) (fun ha hb => ⟨(nbits ha hb).2.2.1, (nbits ha hb).2.2.2.2.2⟩)) h
 | andNot => exact s_bit hr hE hM (.inr (.inr (.inr rfl))) (fun ha hb => nandn ha hb) h
 | shl => exact x_shl hr hM hE (s_shl hr hE hM) h
 | shr => exact x_shr hr hM hE (s_shr hr hE hM) h
 | eql =>
  have h' : (eqW true m t x y).f ih e σ c = res := h
  exact s_eq (q := true) hr hE hM h'
 | neq =>
  have h' : (eqW false m t x y).f ih e σ c = res := h
  exact s_eq (q := false) hr hE hM h'
 | lss =>
  refine s_cm hr hE hM (fun k a b w' => ?_) (fun a b ha hb => ?_) (fun a b ha hb w' => ?_) h
  ·rw [bI_eq]; simp [binOp, Op.intCmp]
  ·rw [ltU_eq ha hb]; simp [cmpU]
  ·rw [bI_eq]
   exact run_flt (r := compare a b == .lt) (by simp [binOp, Op.floatCmp, flt_ord ha hb]) (by rw [cmp_lt]; exact (Bool.true_beq _).symm) w'
 | geq =>
  refine s_cm hr hE hM (fun k a b w' => ?_) (fun a b ha hb => ?_) (fun a b ha hb w' => ?_) h
  ·rw [bI_eq]; simp [binOp, Op.intCmp]; by_cases hh : a < b <;> simp [hh] <;> omega
  ·rw [ltU_eq ha hb]; simp [cmpU]
  ·rw [bI_eq]
   exact run_flt (r := compare a b == .gt || compare a b == .eq) (by simp [binOp, Op.floatCmp, flt_ord ha hb]) (by rw [cmp_gt, cmp_eq]; by_cases hh : a < b <;> by_cases h2 : a = b <;> simp [hh, h2] <;> omega) w'
 | gtr =>
  refine s_mc hr hE hM (fun k a b w' => ?_) (fun a b ha hb => ?_) (fun a b ha hb w' => ?_) h
  ·rw [bI_eq]; simp [binOp, Op.intCmp]
  ·rw [ltU_eq hb ha, bl_tot (uOf a) (uOf b)]; simp [cmpU]
  ·rw [bI_eq]
   exact run_flt (r := compare a b == .gt) (by simp [binOp, Op.floatCmp, flt_ord ha hb]) (by rw [cmp_gt]; exact (Bool.true_beq _).symm) w'
 | leq =>
  refine s_mc hr hE hM (fun k a b w' => ?_) (fun a b ha hb => ?_) (fun a b ha hb w' => ?_) h
  ·rw [bI_eq]; simp [binOp, Op.intCmp]; by_cases hh : b < a <;> simp [hh] <;> omega
  ·rw [ltU_eq hb ha, bl_tot (uOf a) (uOf b)]; simp [cmpU]
  ·rw [bI_eq]
   exact run_flt (r := compare a b == .lt || compare a b == .eq) (by simp [binOp, Op.floatCmp, flt_ord ha hb]) (by rw [cmp_lt, cmp_eq]; by_cases hh : b < a <;> by_cases h2 : a = b <;> simp [hh, h2] <;> omega) w'
end
end Rn
end Eng
end Go.Proofs.YtpfelapckcojjaaGreatDoor
namespace Go.Proofs.YtpfelapckcojjaaGreatDoor
open Go.RowKit
namespace Eng
namespace Rn
theorem size_spec {t z : Nat} (h : size t = some z) : (∃ i, Tryz.prog.info? t = some i ∧ i.size = z) ∧ ((one t = true ∧ z = 1) ∨ (one t = false ∧ get l_agg t = some z)) := by
 unfold size at h
 split at h
 ·rename_i h1
  obtain rfl := Option.some.inj h
  obtain ⟨_, i, h2, h3⟩ := one_spec h1
  exact ⟨⟨i, h2, h3⟩, .inl ⟨h1, rfl⟩⟩
 ·rename_i h1
  obtain ⟨_, i, h2, h3⟩ := agg_spec h
  exact ⟨⟨i, h2, h3⟩, .inr ⟨h1, h⟩⟩
theorem arr_inv {t n z : Nat} (h : arr t = some (n, z)) : ∃ e, Tryz.prog.underlying t = some (.array n e) ∧ size e = some z := by
 unfold arr at h
 split at h
 ·rename_i n' e hu
  split at h
  ·rename_i z' hz
   injection h with h; injection h with h1 h2; subst h1; subst h2
   exact ⟨e, hu, hz⟩
  ·cases h
 ·cases h
theorem elemOf_inv {t : TypeId} {el : TypeId} {z : Nat} (h : elemOf t = some (el, z)) : Tryz.prog.underlying t = some (.slice el) ∧ size el = some z := by
 unfold elemOf at h
 split at h
 ·rename_i e hu
  split at h
  ·rename_i z' hz
   injection h with h; injection h with h1 h2; subst h1; subst h2
   exact ⟨hu, hz⟩
  ·cases h
 ·cases h
theorem isAgg_one {t : TypeId} (h : one t = true) (w' : World) : (isAgg t).run Tryz.prog w' = .ok false w' := by
 obtain ⟨⟨td, h1, h2, h3⟩, _⟩ := one_spec h
 unfold isAgg
 simp only [Sem.run_bind, run_underlying h1, Result.andThen_ok]
 cases td <;> first | exact absurd rfl (h2 _) | exact absurd rfl (h3 _ _) | simp
theorem isAgg_agg {t n : Nat} (h : get l_agg t = some n) (w' : World) : (isAgg t).run Tryz.prog w' = .ok true w' := by
 obtain ⟨h1 | h1, _⟩ := agg_spec h
 ·obtain ⟨fs, h1⟩ := h1
  unfold isAgg
  simp [run_underlying h1]
 ·obtain ⟨m, e, h1⟩ := h1
  unfold isAgg
  simp [run_underlying h1]
theorem part_one {u : TypeId} (h : one u = true) {cs : Array Value} {o : Nat} {v : Value} (hv : cs[o]? = some v) (w' : World) : (part u cs o).run Tryz.prog w' = .ok v w' := by
 simp [part, isAgg_one h, hv]
theorem part_agg {u n : Nat} (h : get l_agg u = some n) (vs : List Value) (o : Nat) (w' : World) : (part u vs.toArray o).run Tryz.prog w' = .ok (.agg ((vs.drop o).take n).toArray) w' := by
 obtain ⟨_, i, h2, h3⟩ := agg_spec h
 have e : vs.toArray.extract o (o + n) = ((vs.drop o).take n).toArray := by
  apply Array.ext'
  simp [List.take_drop]
 simp [part, isAgg_agg h, sizeOf, typeInfo, h2, h3]
theorem zA_inv {ρ : Pl} {t : TypeId} {l : List SV} (h : zA t = some l) : ∃ i v, Tryz.prog.info? t = some i ∧ i.zero = some v ∧ SRs ρ l v.cells.toList := by
 unfold zA at h
 split at h
 ·rename_i v hz
  cases hi : Tryz.prog.info? t with
  | none => rw [hi] at hz; cases hz
  | some i =>
   rw [hi] at hz
   refine ⟨i, v, rfl, hz, ?_⟩
   unfold cA at h
   split at h
   ·rename_i x hx
    obtain rfl := Option.some.inj h
    split at hx
    ·split at hx
     ·injection hx with hx; cases hx
     ·cases hx
    ·split at hx
     ·rename_i y hy
      injection hx with hx; injection hx with hx; subst hx
      have h1 : SR ρ y v := cS_sound hy
      rw [h1.cells]
      exact .cons ⟨cS_nu hy, h1⟩ .nil
     ·cases hx
   ·rename_i x hx
    obtain rfl := Option.some.inj h
    split at hx
    ·rename_i cs
     split at hx
     ·rename_i l' hl
      injection hx with hx; injection hx with hx; subst hx
      exact cL_sound hl
     ·cases hx
    ·split at hx
     ·injection hx with hx; cases hx
     ·cases hx
   ·cases h
 ·cases h
theorem set_cells (off : Nat) : ∀ (c : List Value) (k : Nat) (xs : List Value), off + k + c.length ≤ xs.length → (c.zipIdx k).foldl (fun (cs : List Value) (p : Value × Nat) => cs.set (off + p.2) p.1) xs = xs.take (off + k) ++ (c ++ xs.drop (off + k + c.length))
 | [], k, xs, h => by simp
 | v :: c, k, xs, h => by
  have hl : off + k < xs.length := by simp at h; omega
  have e : xs.set (off + k) v = xs.take (off + k) ++ v :: xs.drop (off + k + 1) := List.set_eq_take_append_cons_drop.trans (by simp [hl])
  have hA : (xs.take (off + k)).length = off + k := by simp; omega
  rw [List.zipIdx_cons, List.foldl_cons, set_cells off c (k + 1) _ (by simp at h ⊢; omega), e]
  generalize xs.take (off + k) = A at hA ⊢
  have e1 : List.take (off + (k + 1)) (A ++ v :: xs.drop (off + k + 1)) = A ++ [v] := by
   rw [List.take_append, hA, List.take_of_length_le (by omega), show off + (k + 1) - (off + k) = 1 by omega]
   rfl
  have e2 : List.drop (off + (k + 1) + c.length) (A ++ v :: xs.drop (off + k + 1)) = xs.drop (off + k + (c.length + 1)) := by
   rw [List.drop_append, hA, List.drop_eq_nil_of_le (by omega), show off + (k + 1) + c.length - (off + k) = c.length + 1 by omega, List.drop_succ_cons, List.drop_drop, List.nil_append]
   congr 1
   omega
  rw [e1, e2]
  simp
theorem put_cells (off : Nat) (c : List Value) (xs : Array Value) (h : off + c.length ≤ xs.size) : ((c.zipIdx 0).foldl (fun (cs : Array Value) (p : Value × Nat) => cs.setIfInBounds (off + p.2) p.1) xs).toList = xs.toList.take off ++ (c ++ xs.toList.drop (off + c.length)) := by
 have e : ∀ (l : List (Value × Nat)) (xs : Array Value), (l.foldl (fun (cs : Array Value) (p : Value × Nat) => cs.setIfInBounds (off + p.2) p.1) xs).toList = l.foldl (fun (cs : List Value) (p : Value × Nat) => cs.set (off + p.2) p.1) xs.toList := fun l => by
  induction l with
  | nil => intro xs; rfl
  | cons p l ih => intro xs; rw [List.foldl_cons, List.foldl_cons, ih]; simp
 rw [e, set_cells off c 0 _ (by simpa using h)]
 simp
theorem fill_cons {place : Nat → Option (Nat × Nat)} {i off size : Nat} {v : Value} {cells : List Value} {rest : List (Nat × Value)} (hp : place i = some (off, size)) (hs : v.cells.size = size) (hf : off + size ≤ cells.length) :
  Instr.fill place cells.toArray ((i, v) :: rest) = Instr.fill place (cells.take off ++ (v.cells.toList ++ cells.drop (off + size))).toArray rest := by
 rw [Instr.fill, hp]
 simp only
 rw [if_neg (by simp [hs]; omega)]
 congr 1
 have h := put_cells off v.cells.toList cells.toArray (by simp [hs]; omega)
 apply Array.ext'
 rw [← Array.foldl_toList]
 rw [show v.cells.zipIdx.toList = v.cells.toList.zipIdx by simp]
 refine Eq.trans ?_ (h.trans ?_)
 ·rfl
 ·simp [hs]
theorem fill_mono {f g : Nat → Option (Nat × Nat)} (hfg : ∀ i p, f i = some p → g i = some p) : ∀ {l : List (Nat × Value)} {cs cs' : Array Value}, Instr.fill f cs l = some cs' → Instr.fill g cs l = some cs'
 | [], cs, cs', h => h
 | (i, v) :: l, cs, cs', h => by
  rw [Instr.fill] at h ⊢
  split at h
  ·cases h
  ·rename_i off size hi
   rw [hfg i _ hi]
   simp only
   split at h
   ·cases h
   ·rename_i hc
    rw [if_neg hc]
    exact fill_mono hfg h
theorem mapM_get {α β : Type} {g : α → Option β} : ∀ {l : List α} {r : List β}, l.mapM g = some r → ∀ {i : Nat} {x : α}, l[i]? = some x → ∀ {p : β}, g x = some p → r[i]? = some p
 | [], r, _, i, x, hx, p, _ => by cases hx
 | y :: l, r, h, i, x, hx, p, hp => by
  rw [List.mapM_cons] at h
  simp only [bind, Option.bind_eq_some_iff, pure, Option.some.injEq] at h
  obtain ⟨b, h1, r', h2, rfl⟩ := h
  cases i with
  | zero =>
   obtain rfl := Option.some.inj hx
   rw [h1] at hp; exact hp
  | succ i => exact mapM_get h2 (i := i) hx hp
section
variable {m : Nat} {ih : Cl} {e : En} {σ : Mem} {c : Kt} {res : Rs} {ρ : Pl} {env : Env} {w0 : Fm} {w : World} {full : Array Oper} {d : Tmp} {ty : TypeId} {pos : String} {af : Array Edge} (hr : res ≠ .no)
include hr
theorem nthK_inv {α : Type} : ∀ {l : List α} {i : Nat} {c : α → Rs}, nthK l i c = res → ∃ x, l[i]? = some x ∧ c x = res
 | [], _, _, h => absurd h.symm hr
 | x :: _, 0, _, h => ⟨x, rfl, h⟩
 | _ :: l, i + 1, _, h => nthK_inv (l := l) (i := i) h
theorem ptW_inv {env : Env} {off : Nat → Option (Nat × Nat)} (hE : ER m ρ e env) : ∀ {ps : List (Nat × Operand)} {l : List SV} {vs : List Value} {k : List SV → Rs}, (ptW m off ps).f e l k = res → SRs ρ l vs → ∃ pvs l' vs', evq env ps = some pvs ∧ Instr.fill off vs.toArray pvs = some vs'.toArray ∧ SRs ρ l' vs' ∧ vs'.length = vs.length ∧ k l' = res
 | [], l, vs, k, h, hl => ⟨[], l, vs, rfl, rfl, hl, rfl, h⟩
 | (i, x) :: ps, l, vs, k, h, hl => by
  have h' : (match off i with
   | some (o, z) => (⟨fun e l k => (gtW m x).f e fun v => onV v (fun x => nuK x (okK (Nat.beq z 1) (okK (Nat.ble (Nat.add o 1) l.length) (fP (put l o [x]) fun l => (ptW m off ps).f e l k)))) fun g => okK (Nat.beq g.length z) (okK (Nat.ble (Nat.add o z) l.length) (fP (put l o g) fun l => (ptW m off ps).f e l k))⟩ : Wps)
   | none => ⟨fun _ _ _ => .no⟩).f e l k = res := h
  split at h'
  ·rename_i o z hoz
   obtain ⟨a, v, h1, h2, h'⟩ := gtW_inv hr hE h'
   have key : ∀ (g : List SV) (gs : List Value), SRs ρ g gs → v.cells = gs.toArray → g.length = z → o + z ≤ l.length → (ptW m off ps).f e (put l o g) k = res → ∃ pvs l' vs', evq env ((i, x) :: ps) = some pvs ∧ Instr.fill off vs.toArray pvs = some vs'.toArray ∧ SRs ρ l' vs' ∧ vs'.length = vs.length ∧ k l' = res := fun g gs hg hgs hz hle h => by
    have hgl := hg.len
    have hvl := hl.len
    have hput : SRs ρ (put l o g) (vs.take o ++ (gs ++ vs.drop (o + z))) := by
     unfold put
     rw [hz]
     exact (hl.take o).app (hg.app (hl.drop (o + z)))
    obtain ⟨pvs, l', vs', e1, e2, e3, e5, e4⟩ := ptW_inv hE h hput
    have e6 : vs'.length = vs.length := by
     rw [e5]
     simp only [List.length_append, List.length_take, List.length_drop]
     omega
    refine ⟨(i, v) :: pvs, l', vs', by simp only [evq, h1, e1], ?_, e3, e6, e4⟩
    rw [fill_cons hoz (by rw [hgs]; simp; omega) (by omega), hgs]
    exact e2
   rcases onV_inv hr h' with ⟨y, rfl, h'⟩ | ⟨g, rfl, h'⟩
   ·obtain ⟨hn, h5⟩ := okK_inv h' hr
    obtain ⟨hz, h6⟩ := okK_inv h5 hr
    obtain ⟨ho, h7⟩ := okK_inv h6 hr
    rw [fP_eq] at h7
    have hz := Nat.eq_of_beq_eq_true hz
    have ho : o + 1 ≤ l.length := Nat.le_of_ble_eq_true ho
    exact key [y] [v] (.cons ⟨hn, h2⟩ .nil) (SR.cells h2) (by rw [hz]; rfl) (by rw [hz]; exact ho) h7
   ·obtain ⟨hz, h'⟩ := okK_inv h' hr
    obtain ⟨ho, h'⟩ := okK_inv h' hr
    rw [fP_eq] at h'
    obtain ⟨gs, hg, rfl⟩ := h2
    exact key g gs hg rfl (Nat.eq_of_beq_eq_true hz) (Nat.le_of_ble_eq_true ho) h'
  ·exact absurd h'.symm hr
theorem scK_inv {l : List AV} : ∀ {vs : List Value} {k : List SV → Rs}, scK l k = res → ARs ρ l vs → ∃ g, SRs ρ g vs ∧ k g = res := by
 induction l with
 | nil => intro vs k h ha; cases ha; exact ⟨[], .nil, h⟩
 | cons x l ih =>
  intro vs k h ha
  cases ha with
  | cons h1 h2 =>
   rcases onV_inv hr (show onV x (fun x => nuK x (scK l fun l => k (x :: l))) (fun _ => .no) = res from h) with ⟨y, rfl, h⟩ | ⟨g, rfl, h⟩
   ·obtain ⟨hn, h⟩ := okK_inv h hr
    obtain ⟨g, h3, h4⟩ := ih h h2
    exact ⟨y :: g, .cons ⟨hn, h1⟩ h3, h4⟩
   ·exact absurd h.symm hr
variable (hE : ER m ρ e env) (hM : MR w0 ρ σ w)
include hE
theorem gtsW_inv : ∀ {l : List Operand} {k : List AV → Rs}, (gtsW m l).f e k = res → ∃ al vs, evs env l = some vs ∧ ARs ρ al vs ∧ k al = res
 | [], k, h => ⟨[], [], rfl, .nil, h⟩
 | x :: l, k, h => by
  obtain ⟨a, v, h1, h2, h⟩ := gtW_inv hr hE (show (gtW m x).f e _ = res from h)
  obtain ⟨al, vs, h3, h4, h⟩ := gtsW_inv h
  exact ⟨a :: al, v :: vs, by simp only [evs, h1, h3], .cons h2 h4, h⟩
include hM
theorem s_fd {s f : Nat} {x : Operand} (h : (opW m (.fieldAddr s x f)).f ih e σ c = res) : xs Tryz.prog isI isS [] Eng.noH full (Good w0 ρ c res env (some d)) [⟨some d, .fieldAddr s x f, ty, pos, af, none⟩] env w := by
 have h' : (match Nat.blt f 100 with
  | true => fdW m x (fo s f)
  | false => noH).f ih e σ c = res := h
 split at h'
 ·rename_i hf
  unfold fdW at h'
  split at h'
  ·rename_i off ho
   rw [cN_eq] at h'
   obtain ⟨a, v, h1, h2, h'⟩ := gtW_inv hr hE h'
   obtain ⟨id, o, e0, h0⟩ := onP_inv hr h'
   clear h'
   subst e0
   have h' := h0
   rw [fN_eq] at h'
   obtain ⟨p, h3, rfl⟩ := h2
   exact xfa h1 ho hf ⟨_, σ, ρ, _, h', Up.refl ρ, ⟨p, h3, rfl⟩, hM, rfl⟩
  ·exact absurd h'.symm hr
 ·exact absurd h'.symm hr
theorem s_ix {t : TypeId} {x i : Operand} (h : (ixW m t x i).f ih e σ c = res) : xs Tryz.prog isI isS [] Eng.noH full (Good w0 ρ c res env (some d)) [⟨some d, .indexAddr t x i, ty, pos, af, none⟩] env w := by
 unfold ixW at h
 split at h
 ·rename_i n z ha
  rw [cN_eq, cN_eq] at h
  obtain ⟨a, b, va, vb, h1, h2, h3, h4, h⟩ := two hr hE h
  obtain ⟨id, o, rfl, h⟩ := onP_inv hr h
  obtain ⟨k, j, rfl, h⟩ := onN_inv hr h
  obtain ⟨hj, h⟩ := okK_inv h hr
  have hj : j + 1 ≤ n := Nat.le_of_ble_eq_true hj
  rw [fN_eq] at h
  obtain ⟨p, h5, rfl⟩ := h3
  obtain ⟨rfl, _⟩ := h4
  obtain ⟨el, hu, hz⟩ := arr_inv ha
  obtain ⟨⟨ie, hi, hsz⟩, _⟩ := size_spec hz
  refine x_gen rfl (by simp [opsOK, Op.operands, h1, h2]) ⟨.pointer (some ⟨p.b, o + j * z, none⟩), fun w' => ?_, _, σ, ρ, _, h, Up.refl ρ, ⟨p, h5, rfl⟩, hM, rfl⟩
  simp [execOp, ev_of h1, ev_of h2, Instr.indexAt, asIntOf, Instr.sureAddr, run_underlying hu, sizeOf, typeInfo, hi, hsz, Addr.add_lit]
  exact fun hh => absurd hj (by omega)
 ·split at h
  ·rename_i z' hz
   rw [cN_eq] at h
   obtain ⟨a, b, va, vb, h1, h2, h3, h4, h⟩ := two hr hE h
   obtain ⟨k, q, rfl, h⟩ := onN_inv hr h
   obtain ⟨rfl, _⟩ := h4
   rcases onL_inv hr h with ⟨rfl, h⟩ | ⟨id, z, j, n, rfl, h⟩ | ⟨id, z, j, n, k, rfl, h⟩ | ⟨_, _, _, _, rfl, h⟩ | ⟨l, rfl, h⟩ | ⟨id, o, rfl, h⟩
   ·exact absurd h.symm hr
   ·obtain ⟨hq, h⟩ := okK_inv h hr
    have hq : q + 1 ≤ n := Nat.le_of_ble_eq_true hq
    rw [fN_eq] at h
    obtain ⟨p, h5, _, _, _, rfl⟩ := h3
    exact xix h1 h2 hz (by show (0 : Int) ≤ (q : Int); omega) (by show (q : Int) < _; omega) ⟨_, σ, ρ, _, h, Up.refl ρ, ⟨p, h5, rfl⟩, hM, rfl⟩
   ·obtain ⟨hq, h⟩ := okK_inv h hr
    have hq : q + 1 ≤ n := Nat.le_of_ble_eq_true hq
    rw [fN_eq] at h
    obtain ⟨p, h5, _, _, rfl⟩ := h3
    exact xix h1 h2 hz (by show (0 : Int) ≤ (q : Int); omega) (by show (q : Int) < _; omega) ⟨_, σ, ρ, _, h, Up.refl ρ, ⟨p, h5, rfl⟩, hM, rfl⟩
   ·exact absurd h.symm hr
   ·exact absurd h.symm hr
   ·exact absurd h.symm hr
  ·exact absurd h.symm hr
theorem s_ex {x : Operand} {k : Nat} (h : (exW m x k).f ih e σ c = res) : xs Tryz.prog isI isS [] Eng.noH full (Good w0 ρ c res env (some d)) [⟨some d, .extract x k, ty, pos, af, none⟩] env w := by
 obtain ⟨a, v, h1, h2, h⟩ := gtW_inv hr hE (show (gtW m x).f e _ = res from h)
 obtain ⟨l, rfl, h⟩ := onT_inv hr h
 obtain ⟨y, hy, h⟩ := nthK_inv hr h
 obtain ⟨vs, h3, rfl⟩ := h2
 have key : ∀ {l : List TV} {vs : List Value}, TRs ρ l vs → ∀ {k : Nat} {y : TV}, l[k]? = some y → ∃ v, vs[k]? = some v ∧ TR ρ y v := fun {l vs} h3 => by
  induction h3 with
  | nil => intro k y hy; cases hy
  | cons h5 _ ih =>
   intro k y hy
   cases k with
   | zero => obtain rfl := Option.some.inj hy; exact ⟨_, rfl, h5⟩
   | succ k => exact ih hy
 obtain ⟨v, hv, h4⟩ := key h3 hy
 cases y with
 | v y => exact xex h1 (by simpa using hv) ⟨_, σ, ρ, _, h, Up.refl ρ, h4, hM, rfl⟩
 | g l => exact xex h1 (by simpa using hv) ⟨_, σ, ρ, _, h, Up.refl ρ, h4, hM, rfl⟩
theorem s_fl {t : TypeId} {x : Operand} {k : Nat} (h : (flW m x (fieldOf t k)).f ih e σ c = res) : xs Tryz.prog isI isS [] Eng.noH full (Good w0 ρ c res env (some d)) [⟨some d, .field t x k, ty, pos, af, none⟩] env w := by
 unfold flW at h
 split at h
 ·rename_i o u hf
  have hfs : ∃ fs f, Tryz.prog.underlying t = some (.struct fs) ∧ fs[k]? = some f ∧ f.offset = o ∧ f.type = u := by
   unfold fieldOf at hf
   split at hf
   ·rename_i fs hu
    split at hf
    ·rename_i f hk
     injection hf with hf; injection hf with e1 e2
     exact ⟨fs, f, hu, hk, e1, e2⟩
    ·cases hf
   ·cases hf
  obtain ⟨fs, f, hu, hk, rfl, rfl⟩ := hfs
  split at h
  ·rename_i ho
   rw [cN_eq] at h
   obtain ⟨a, v, h1, h2, h⟩ := gtW_inv hr hE h
   obtain ⟨l, rfl, h⟩ := onG_inv hr h
   obtain ⟨y, hy, h⟩ := nthK_inv hr h
   obtain ⟨vs, h3, rfl⟩ := h2
   obtain ⟨v, hv, h4⟩ := h3.get _ _ hy
   refine x_gen rfl (by simp [opsOK, Op.operands, h1]) ⟨v, fun w' => ?_, _, σ, ρ, _, h, Up.refl ρ, h4.2, hM, rfl⟩
   have := part_one ho (cs := vs.toArray) (by simpa using hv) w'
   simp [execOp, ev_of h1, Instr.field, run_underlying hu, asAgg, hk, this]
  ·split at h
   ·rename_i n hn
    rw [cN_eq, cN_eq] at h
    obtain ⟨a, v, h1, h2, h⟩ := gtW_inv hr hE h
    obtain ⟨l, rfl, h⟩ := onG_inv hr h
    obtain ⟨_, h⟩ := okK_inv h hr
    rw [fP_eq] at h
    obtain ⟨vs, h3, rfl⟩ := h2
    refine x_gen rfl (by simp [opsOK, Op.operands, h1]) ⟨.agg ((vs.drop f.offset).take n).toArray, fun w' => ?_, _, σ, ρ, _, h, Up.refl ρ, ⟨_, (h3.drop _).take _, rfl⟩, hM, rfl⟩
    have := part_agg hn vs f.offset w'
    simp [execOp, ev_of h1, Instr.field, run_underlying hu, asAgg, hk, this]
   ·exact absurd h.symm hr
 ·exact absurd h.symm hr
theorem s_el {t : TypeId} {x i : Operand} (h : (elW m t x i).f ih e σ c = res) : xs Tryz.prog isI isS [] Eng.noH full (Good w0 ρ c res env (some d)) [⟨some d, .index t x i, ty, pos, af, none⟩] env w := by
 unfold elW at h
 split at h
 ·rename_i n el hu
  split at h
  ·rename_i ho
   rw [cN_eq] at h
   obtain ⟨a, b, va, vb, h1, h2, h3, h4, h⟩ := two hr hE h
   obtain ⟨l, rfl, h⟩ := onG_inv hr h
   obtain ⟨k, j, rfl, h⟩ := onN_inv hr h
   obtain ⟨hj, h⟩ := okK_inv h hr
   have hj : j + 1 ≤ n := Nat.le_of_ble_eq_true hj
   obtain ⟨y, hy, h⟩ := nthK_inv hr h
   obtain ⟨vs, h3, rfl⟩ := h3
   obtain ⟨rfl, _⟩ := h4
   obtain ⟨v, hv, h4⟩ := h3.get _ _ hy
   obtain ⟨_, ie, hi, hsz⟩ := one_spec ho
   refine x_gen rfl (by simp [opsOK, Op.operands, h1, h2]) ⟨v, fun w' => ?_, _, σ, ρ, _, h, Up.refl ρ, h4.2, hM, rfl⟩
   have := part_one ho (cs := vs.toArray) (o := j) (by simpa using hv) w'
   simp [execOp, ev_of h1, ev_of h2, Instr.index, asIntOf, run_underlying hu, sizeOf, typeInfo, hi, hsz, this]
   exact fun hh => absurd hj (by omega)
  ·split at h
   ·rename_i z hn
    rw [cN_eq, cN_eq] at h
    obtain ⟨a, b, va, vb, h1, h2, h3, h4, h⟩ := two hr hE h
    obtain ⟨l, rfl, h⟩ := onG_inv hr h
    obtain ⟨k, j, rfl, h⟩ := onN_inv hr h
    obtain ⟨hj, h⟩ := okK_inv h hr
    have hj : j + 1 ≤ n := Nat.le_of_ble_eq_true hj
    obtain ⟨_, h⟩ := okK_inv h hr
    rw [fP_eq] at h
    obtain ⟨vs, h3, rfl⟩ := h3
    obtain ⟨rfl, _⟩ := h4
    obtain ⟨_, ie, hi, hsz⟩ := agg_spec hn
    refine x_gen rfl (by simp [opsOK, Op.operands, h1, h2]) ⟨.agg ((vs.drop (j * z)).take z).toArray, fun w' => ?_, _, σ, ρ, _, h, Up.refl ρ, ⟨_, (h3.drop _).take _, rfl⟩, hM, rfl⟩
    have := part_agg hn vs (j * z) w'
    simp [execOp, ev_of h1, ev_of h2, Instr.index, asIntOf, run_underlying hu, sizeOf, typeInfo, hi, hsz, this]
    exact fun hh => absurd hj (by omega)
   ·exact absurd h.symm hr
 ·split at h
  ·rename_i hS
   obtain ⟨a, b, va, vb, h1, h2, h3, h4, h⟩ := two hr hE h
   split at h
   ·rename_i l hl
    obtain ⟨k, j, rfl, h⟩ := onN_inv hr h
    obtain ⟨y, hy, h⟩ := nthK_inv hr h
    obtain rfl := slO_some hl
    obtain ⟨rfl, hl, _⟩ := h3
    obtain ⟨rfl, _⟩ := h4
    have hq := hl y (List.mem_of_getElem? hy)
    refine xui (z := ucOf ρ y) j hS h1 h2 rfl (by simp [hy]) ?_
    unfold byX at h
    rw [ifK_eq] at h
    split at h
    ·rename_i hb
     have hb := Nat.le_of_ble_eq_true hb
     rw [fN_eq] at h
     obtain ⟨p, p1, p2⟩ := hq.resolve_left (by omega)
     refine ⟨_, σ, ρ, _, h, Up.refl ρ, ⟨p, p1, ?_, by show p.b ≤ 255; omega, rfl⟩, hM, rfl⟩
     have e1 : ucOf ρ y = UInt8.ofNat p.b := by
      unfold ucOf
      rw [if_neg (by omega), p1]
     rw [e1]
     simp only [UInt8.toNat_ofNat', Nat.mod_eq_of_lt p2]
     rfl
    ·rename_i hb
     have hb : y < 256 := by
      rw [ble_dec] at hb
      simpa using hb
     refine ⟨_, σ, ρ, _, h, Up.refl ρ, ⟨?_, by show y ≤ 255; omega⟩, hM, rfl⟩
     have e1 : ucOf ρ y = UInt8.ofNat y := by
      unfold ucOf
      rw [if_pos hb]
     rw [e1]
     simp only [UInt8.toNat_ofNat', Nat.mod_eq_of_lt hb]
     rfl
   obtain ⟨l, rfl, h⟩ := onS_inv hr h
   obtain ⟨k, j, rfl, h⟩ := onN_inv hr h
   obtain ⟨y, hy, h⟩ := nthK_inv hr h
   obtain ⟨rfl, hl, _⟩ := h3
   obtain ⟨rfl, _⟩ := h4
   have hy8 : y < 256 := hl y (List.mem_of_getElem? hy)
   refine xui (z := UInt8.ofNat y) j hS h1 h2 rfl (by simp [uOf, hy]) ⟨_, σ, ρ, _, h, Up.refl ρ, ⟨?_, by show y ≤ 255; omega⟩, hM, rfl⟩
   simp only [UInt8.toNat_ofNat', Nat.mod_eq_of_lt hy8]
   rfl
  ·exact absurd h.symm hr
 ·exact absurd h.symm hr
theorem s_bu {t : TypeId} {ps : List (Nat × Operand)} (h : (buW m t ps).f ih e σ c = res) : xs Tryz.prog isI isS [] Eng.noH full (Good w0 ρ c res env (some d)) [⟨some d, .build t ps.toArray, ty, pos, af, none⟩] env w := by
 have key : ∀ {off : Nat → Option (Nat × Nat)}, (∀ i z pvs, Tryz.prog.info? t = some i → i.zero = some z → ∀ cells, Instr.fill off z.cells pvs = some cells → Tryz.prog.built t pvs = some cells) → (bdW m off ps (zA t)).f ih e σ c = res → xs Tryz.prog isI isS [] Eng.noH full (Good w0 ρ c res env (some d)) [⟨some d, .build t ps.toArray, ty, pos, af, none⟩] env w := fun {off} hoff h => by
  unfold bdW at h
  split at h
  ·rename_i z hz
   rw [cVs_eq] at h
   obtain ⟨i, v, hi, hv, hl⟩ := zA_inv (ρ := ρ) hz
   obtain ⟨pvs, l', vs', h1, h2, h3, _, h⟩ := ptW_inv hr hE h hl
   exact xbd h1 (hoff i v pvs hi hv _ h2) ⟨_, σ, ρ, _, h, Up.refl ρ, ⟨vs', h3, rfl⟩, hM, rfl⟩
  ·exact absurd h.symm hr
 unfold buW at h
 split at h
 ·rename_i n z ha
  obtain ⟨el, hu, hz⟩ := arr_inv ha
  obtain ⟨⟨ie, hie, hsz⟩, _⟩ := size_spec hz
  refine key (fun i zv pvs hi hzv cells hf => ?_) h
  unfold Program.built
  simp only [hi, hu, hzv, hie, hsz]
  exact hf
 ·split at h
  ·rename_i fs hu
   split at h
   ·rename_i cz hcz
    refine key (fun i zv pvs hi hzv cells hf => ?_) h
    unfold Program.built at hcz ⊢
    simp only [hi, hu, hzv] at hcz ⊢
    split at hcz
    ·rename_i z' pl e1 e2
     obtain rfl := Option.some.inj e1
     refine fill_mono (fun j q hq => ?_) hf
     unfold offS at hq
     split at hq
     ·rename_i o u hfo
      unfold fieldOf at hfo
      rw [hu] at hfo
      simp only at hfo
      split at hfo
      ·rename_i f hfj
       obtain ⟨rfl, rfl⟩ := Prod.mk.inj (Option.some.inj hfo)
       split at hq
       ·rename_i z hz
        obtain rfl := Option.some.inj hq
        obtain ⟨⟨iu, hiu, hsu⟩, _⟩ := size_spec hz
        have := mapM_get e2 (i := j) (x := f) (by simpa using hfj) (p := (f.offset, z)) (by simp [hiu, hsu])
        simpa using this
       ·cases hq
      ·cases hfo
     ·cases hq
    ·cases hcz
   ·exact absurd h.symm hr
  ·exact absurd h.symm hr
omit hr hE hM in
theorem x_mkf {hs : List Nat} {H : World → Prop} {K : Env → World → Prop} {rest : List Oper} {f : FuncId} {caps : List Operand} {vs : List Value} (hc : evs env caps = some vs) (h : xs Tryz.prog isI isS hs H full K rest ((d, .func (.func f) #[] vs.toArray) :: env) w) :
  xs Tryz.prog isI isS hs H full K (⟨some d, .makeFunc (.func f) #[] caps.toArray, ty, pos, af, none⟩ :: rest) env w := by
 obtain ⟨h1, h2⟩ := evs_spec hc
 refine x_gen rfl (by simpa [opsOK, Op.operands] using h2) ⟨_, fun w' => ?_, h⟩
 simp [execOp, Instr.makeFunc, h1]
theorem s_mf {fn : Fn} {a b : List Operand} (h : (mfW m fn a b).f ih e σ c = res) : xs Tryz.prog isI isS [] Eng.noH full (Good w0 ρ c res env (some d)) [⟨some d, .makeFunc fn a.toArray b.toArray, ty, pos, af, none⟩] env w := by
 unfold mfW at h
 split at h
 ·split at h
  ·obtain ⟨al, vs, h1, h2, h⟩ := gtsW_inv hr hE (show (gtsW m b).f e _ = res from h)
   obtain ⟨g, h3, h⟩ := scK_inv hr h h2
   exact x_mkf h1 ⟨_, σ, ρ, _, h, Up.refl ρ, ⟨vs, h3, rfl⟩, hM, rfl⟩
  ·exact absurd h.symm hr
 ·exact absurd h.symm hr
end
end Rn
end Eng
end Go.Proofs.YtpfelapckcojjaaGreatDoor
