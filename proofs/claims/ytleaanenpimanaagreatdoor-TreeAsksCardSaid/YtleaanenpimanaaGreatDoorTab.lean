/-
  Tables of this seat's types and functions, read off the translation by program and checked against the loaded program by the kernel.
-/
import Derived.Test.YtleaanenpimanaaGreatDoorEngA
import Derived.Test.YtleaanenpimanaaGreatDoorProg
namespace Go.Proofs.YtleaanenpimanaaGreatDoor
namespace Eng

def bit (m t : Nat) : Bool := Nat.beq (m / 2 ^ t % 2) 1
def get : List (Nat × Nat) → Nat → Option Nat
  | [], _ => none
  | (k, v) :: r, t => match Nat.beq k t with
    | true => some v
    | false => get r t
theorem get_mem : ∀ {l : List (Nat × Nat)} {t v : Nat}, get l t = some v → (t, v) ∈ l
  | [], _, _, h => by cases h
  | (k, u) :: r, t, v, h => by
    simp only [get] at h
    split at h
    · rename_i hb; injection h with h; subst h; rw [Nat.eq_of_beq_eq_true hb]; simp
    · exact List.mem_cons_of_mem _ (get_mem h)

def m_i8 : Nat := 0
def m_i16 : Nat := 0
def m_i32 : Nat := 73559785961562665201200657303214840813699477864815001600
def m_i64 : Nat := 12
def m_u8 : Nat := 4597486622597666575075041081450927550856217366550806624
def m_u16 : Nat := 0
def m_u32 : Nat := 5846006549323611672814739330865132078623730171904
def m_u64 : Nat := 10384593717069655259312792472129536
def kindOf (t : Nat) : Option IntKind := match bit m_i64 t with
  | true => some .i64
  | false => match bit m_u64 t with
    | true => some .u64
    | false => match bit m_u8 t with
      | true => some .u8
      | false => match bit m_i32 t with
        | true => some .i32
        | false => match bit m_u32 t with
          | true => some .u32
          | false => none
def isI (t : Nat) : Bool := (kindOf t).isSome
def m_str : Nat := 3584
def isS (t : Nat) : Bool := bit m_str t
def m_one : Nat := 96572462130830974666582168549665760849854705127868571262
def one (t : Nat) : Bool := bit m_one t
def m_ptr : Nat := 12259964326927111547432808133294034105200333850453180416
def l_fld : List (Nat × Nat) := [(700, 0), (701, 1), (702, 2), (703, 3), (800, 0), (801, 1), (802, 2), (803, 3), (1300, 0), (1301, 1), (1400, 0), (1401, 1), (1800, 0), (1900, 0), (2400, 0), (2401, 1), (2500, 0), (2501, 1), (4300, 0), (4301, 1), (4302, 2), (4303, 3), (4304, 4), (4305, 5), (4400, 0), (4401, 1), (4402, 2), (4403, 3), (4404, 4), (4405, 5), (4600, 0), (4601, 1), (4602, 7), (4603, 8), (4604, 9), (4605, 10), (4606, 11), (4700, 0), (4701, 1), (4702, 7), (4703, 8), (4704, 9), (4705, 10), (4706, 11), (4800, 0), (4801, 1), (4900, 0), (4901, 1), (6700, 0), (6701, 2), (6702, 3), (6703, 4), (6704, 5), (6800, 0), (6801, 2), (6802, 3), (6803, 4), (6804, 5), (7300, 0), (7301, 1), (7400, 0), (7401, 1), (9200, 0), (9201, 1), (9300, 0), (9301, 1), (9400, 0), (9401, 1), (9402, 2), (9500, 0), (9501, 1), (9502, 2), (10300, 0), (10301, 1), (10302, 2), (10303, 3), (10304, 4), (10400, 0), (10401, 1), (10402, 2), (10403, 3), (10404, 4), (10600, 0), (10601, 1), (10602, 2), (10603, 4), (10700, 0), (10701, 1), (10702, 2), (10703, 4), (11100, 0), (11101, 1), (11200, 0), (11201, 1), (11400, 0), (11401, 1), (11500, 0), (11501, 1), (17100, 0), (17101, 1), (17200, 0), (17201, 1), (17500, 0), (17501, 1), (17502, 2), (17503, 3), (17600, 0), (17601, 1), (17602, 2), (17603, 3), (18600, 0), (18601, 1), (18602, 2), (18603, 3), (18604, 4), (18605, 5), (18606, 6), (18607, 7), (18608, 8), (18609, 9), (18610, 10), (18700, 0), (18701, 1), (18702, 2), (18703, 3), (18704, 4), (18705, 5), (18706, 6), (18707, 7), (18708, 8), (18709, 9), (18710, 10)]
def fo (s f : Nat) : Option Nat := get l_fld (s * 100 + f)
def l_sl : List (Nat × Nat) := [(22, 2), (23, 12), (26, 1), (39, 1), (41, 2), (42, 3), (45, 2), (57, 2), (81, 1), (138, 1)]
def es (t : Nat) : Option Nat := get l_sl t
def l_an : List (Nat × Nat) := [(170, 256), (173, 16)]
def l_ae : List (Nat × Nat) := [(170, 1), (173, 2)]
def l_agg : List (Nat × Nat) := [(7, 4), (8, 4), (13, 2), (14, 2), (18, 1), (19, 1), (24, 2), (25, 2), (43, 6), (44, 6), (46, 12), (47, 12), (48, 2), (49, 2), (67, 6), (68, 6), (73, 2), (74, 2), (92, 2), (93, 2), (94, 3), (95, 3), (103, 6), (104, 6), (106, 5), (107, 5), (111, 2), (112, 2), (114, 2), (115, 2), (170, 256), (171, 2), (172, 2), (173, 32), (175, 4), (176, 4), (177, 0), (178, 0), (179, 0), (186, 11), (187, 11)]

def chkKind (P : Program) (t : Nat) : Bool := match kindOf t with
  | none => true
  | some k => match P.underlying t with
    | some (.int k') => k == k'
    | _ => false
theorem chkKind_all : (List.range 1000).all (chkKind Tryz.prog) = true := by kernel_rfl
theorem chkKind_ok (t : Nat) (h : t < 1000) : chkKind Tryz.prog t = true := List.all_eq_true.1 chkKind_all t (List.mem_range.2 h)
def chkOne (P : Program) (t : Nat) : Bool := !one t || (match P.underlying t, P.info? t with
    | some (.struct _), _ | some (.array _ _), _ => false
    | some _, some i => i.size == 1
    | _, _ => false)
theorem chkOne_all : (List.range 1000).all (chkOne Tryz.prog) = true := by kernel_rfl
theorem chkOne_ok (t : Nat) (h : t < 1000) : chkOne Tryz.prog t = true := List.all_eq_true.1 chkOne_all t (List.mem_range.2 h)
def chkPtr (P : Program) (t : Nat) : Bool := !bit m_ptr t || (match P.underlying t with
  | some (.pointer _) => true
  | _ => false)
theorem chkPtr_all : (List.range 1000).all (chkPtr Tryz.prog) = true := by kernel_rfl
theorem chkPtr_ok (t : Nat) (h : t < 1000) : chkPtr Tryz.prog t = true := List.all_eq_true.1 chkPtr_all t (List.mem_range.2 h)
def chkFld (P : Program) (x : Nat × Nat) : Bool := match P.underlying (x.1 / 100) with
  | some (.struct fs) => match fs[x.1 % 100]? with
    | some f => f.offset == x.2 && (match P.info? f.type with
      | some i => i.size != 0
      | none => false)
    | none => false
  | _ => false
theorem chkFld_ok : l_fld.all (chkFld Tryz.prog) = true := by kernel_rfl
def chkSl (P : Program) (x : Nat × Nat) : Bool := match P.underlying x.1 with
  | some (.slice e) => match P.info? e with
    | some i => i.size == x.2
    | none => false
  | _ => false
theorem chkSl_ok : l_sl.all (chkSl Tryz.prog) = true := by kernel_rfl
def chkStr (P : Program) (t : Nat) : Bool := !isS t || (match P.underlying t with
  | some .string => true
  | _ => false)
theorem chkStr_all : (List.range 1000).all (chkStr Tryz.prog) = true := by kernel_rfl
theorem chkStr_ok (t : Nat) (h : t < 1000) : chkStr Tryz.prog t = true := List.all_eq_true.1 chkStr_all t (List.mem_range.2 h)
def chkAgg (P : Program) (x : Nat × Nat) : Bool := match P.underlying x.1, P.info? x.1 with
  | some (.struct _), some i | some (.array _ _), some i => i.size == x.2
  | _, _ => false
theorem chkAgg_ok : l_agg.all (chkAgg Tryz.prog) = true := by kernel_rfl
def chkArr (P : Program) (x : Nat × Nat) : Bool := match P.underlying x.1 with
  | some (.array n e) => n == x.2 && decide (1 < n) && (match P.info? e, get l_ae x.1 with
    | some i, some z => i.size == z
    | _, _ => false)
  | _ => false
theorem chkArr_ok : l_an.all (chkArr Tryz.prog) = true := by kernel_rfl
def m_cal : Nat := 6427757923882534490923185636181443220512795235789404624650236
def cal (f : Nat) : Bool := Nat.ble (f + 1) 203 && bit m_cal f
def chkCal (P : Program) (f : Nat) : Bool := !bit m_cal f || (match P.funcs[f]? with
  | some fn => fn.body.isSome && fn.name != "runtime.NumGoroutine"
  | none => false)
theorem chkCal_all : (List.range 1000).all (chkCal Tryz.prog) = true := by kernel_rfl
theorem chkCal_ok (t : Nat) (h : t < 1000) : chkCal Tryz.prog t = true := List.all_eq_true.1 chkCal_all t (List.mem_range.2 h)
theorem mixed : Tryz.prog.follows .mixedOrders = true := by kernel_rfl
end Eng
end Go.Proofs.YtleaanenpimanaaGreatDoor
