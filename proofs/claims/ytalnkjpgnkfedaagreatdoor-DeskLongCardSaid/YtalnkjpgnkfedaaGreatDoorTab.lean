/-
  Tables of this seat's types and functions, read off the translation by program and checked against the loaded program by the kernel.
-/
import Derived.Test.YtalnkjpgnkfedaaGreatDoorEngA
import Derived.Test.YtalnkjpgnkfedaaGreatDoorProg
namespace Go.Proofs.YtalnkjpgnkfedaaGreatDoor
namespace Eng

def bit (m t : Nat) : Bool := Nat.beq (Nat.mod (Nat.shiftRight m t) 2) 1
def get : List (Nat × Nat) → Nat → Option Nat
  | [], _ => none
  | (k, v) :: r, t => match Nat.beq k t with
    | true => some v
    | false => get r t
theorem get_mem : ∀ {l : List (Nat × Nat)} {t v : Nat}, get l t = some v → (t, v) ∈ l
  | [], _, _, h => by cases h
  | (k, u) :: r, t, v, h => by
    simp only [get] at h
    split at h
    · rename_i hb; injection h with h; subst h; rw [Nat.eq_of_beq_eq_true hb]; simp
    · exact List.mem_cons_of_mem _ (get_mem h)

def m_i8 : Nat := 0
def m_i16 : Nat := 0
def m_i32 : Nat := 2397502886642682033701066672481151722814923373566697843859832544992285495413579996252395087152761833850747083101240286383704045321693403115232952320
def m_i64 : Nat := 22713710134237715329666368996500141698551292776108186425607329507950688804715955235377019543047142753291384969493480530840044573818892
def m_u8 : Nat := 299687860830335254212633334060143965351865421695837230482479068124035686926697499531549385894095229231343385387655035797963005665211675389403856992
def m_u16 : Nat := 0
def m_u32 : Nat := 42535295865117307932921825928971026432
def m_u64 : Nat := 1119872371088902105278721140284222139060822748617324767449994572259967418530142134346413622268973289472
def kindOf (t : Nat) : Option IntKind := match bit m_i64 t with
  | true => some .i64
  | false => match bit m_u64 t with
    | true => some .u64
    | false => match bit m_u8 t with
      | true => some .u8
      | false => match bit m_i32 t with
        | true => some .i32
        | false => match bit m_u32 t with
          | true => some .u32
          | false => none
def isI (t : Nat) : Bool := (kindOf t).isSome
def m_str : Nat := 3584
def isS (t : Nat) : Bool := bit m_str t
def m_one : Nat := 15885991800263923433486926567810813244768528571398532908245161898792514383882191053550689930482969457238970278572797577124267050247071169877854363262
def one (t : Nat) : Bool := bit m_one t
def m_ptr : Nat := 97554642385650121494097369912721644898671144402036854147681519448685269271344354871849795766634252665935244998421309538981531108426419565461504
def l_fld : List (Nat × Nat) := [(700, 0), (701, 1), (702, 2), (703, 3), (800, 0), (801, 1), (802, 2), (803, 3), (1300, 0), (1301, 1), (1400, 0), (1401, 1), (1800, 0), (1900, 0), (3600, 0), (3601, 1), (3602, 2), (3700, 0), (3701, 1), (3702, 2), (4200, 0), (4201, 1), (4202, 2), (4203, 3), (4204, 4), (4205, 5), (4300, 0), (4301, 1), (4302, 2), (4303, 3), (4304, 4), (4305, 5), (4500, 0), (4501, 1), (4502, 7), (4503, 8), (4504, 9), (4505, 10), (4506, 11), (4600, 0), (4601, 1), (4602, 7), (4603, 8), (4604, 9), (4605, 10), (4606, 11), (5100, 0), (5101, 8), (5200, 0), (5201, 8), (5600, 0), (5601, 1), (5700, 0), (5701, 1), (6000, 0), (6001, 1), (6100, 0), (6101, 1), (7400, 0), (7401, 1), (7402, 2), (7403, 3), (7404, 4), (7500, 0), (7501, 1), (7502, 2), (7503, 3), (7504, 4), (9900, 0), (9901, 1), (10000, 0), (10001, 1), (11700, 0), (11701, 1), (11800, 0), (11801, 1), (12000, 0), (12001, 1), (12002, 2), (12003, 4), (12100, 0), (12101, 1), (12102, 2), (12103, 4), (13600, 0), (13601, 1), (13602, 2), (13603, 3), (13700, 0), (13701, 1), (13702, 2), (13703, 3), (16500, 0), (16501, 1), (16600, 0), (16601, 1), (17900, 0), (17901, 1), (17902, 2), (17903, 14), (18000, 0), (18001, 1), (18002, 2), (18003, 14), (19100, 0), (19101, 1), (19102, 2), (19103, 3), (19200, 0), (19201, 1), (19202, 2), (19203, 3), (20200, 0), (20201, 1), (20202, 2), (20300, 0), (20301, 1), (20302, 2), (21200, 0), (21300, 0), (22100, 0), (22101, 1), (22102, 2), (22103, 3), (22200, 0), (22201, 1), (22202, 2), (22203, 3), (22800, 0), (22801, 1), (22802, 2), (22900, 0), (22901, 1), (22902, 2), (25700, 0), (25701, 1), (25800, 0), (25801, 1), (32600, 0), (32601, 1), (32700, 0), (32701, 1), (32800, 0), (32801, 1), (32802, 2), (32803, 3), (32804, 4), (32900, 0), (32901, 1), (32902, 2), (32903, 3), (32904, 4), (34700, 0), (34701, 1), (34702, 2), (34800, 0), (34801, 1), (34802, 2), (35300, 0), (35301, 1), (35302, 2), (35400, 0), (35401, 1), (35402, 2), (38400, 0), (38401, 1), (38500, 0), (38501, 1), (41100, 0), (41101, 1), (41102, 2), (41103, 3), (41104, 4), (41200, 0), (41201, 1), (41202, 2), (41203, 3), (41204, 4), (41400, 0), (41401, 13), (41500, 0), (41501, 13), (42000, 0), (42001, 1), (42100, 0), (42101, 1), (42700, 0), (42701, 1), (42800, 0), (42801, 1), (42900, 0), (42901, 1), (42902, 2), (43000, 0), (43001, 1), (43002, 2), (46700, 0), (46701, 1), (46702, 2), (46800, 0), (46801, 1), (46802, 2), (47600, 0), (47700, 0), (48000, 0), (48001, 1), (48002, 2), (48003, 3), (48100, 0), (48101, 1), (48102, 2), (48103, 3), (49000, 0), (49001, 1), (49002, 2), (49003, 3), (49004, 4), (49005, 5), (49006, 6), (49007, 7), (49008, 8), (49009, 9), (49010, 10), (49100, 0), (49101, 1), (49102, 2), (49103, 3), (49104, 4), (49105, 5), (49106, 6), (49107, 7), (49108, 8), (49109, 9), (49110, 10)]
def fo (s f : Nat) : Option Nat := get l_fld (s * 100 + f)
def l_sl : List (Nat × Nat) := [(26, 1), (35, 1), (40, 2), (41, 3), (44, 2), (55, 2), (58, 2), (59, 12), (81, 1), (111, 1), (122, 15), (130, 4), (184, 1), (187, 4), (199, 3), (217, 4), (290, 1), (345, 3), (387, 1), (410, 1)]
def es (t : Nat) : Option Nat := get l_sl t
def l_an : List (Nat × Nat) := [(50, 8), (126, 8), (127, 8), (242, 4), (243, 4), (252, 2), (256, 256), (259, 16), (279, 24), (324, 3), (334, 20), (335, 65), (373, 5), (403, 32), (404, 64), (413, 13)]
def l_ae : List (Nat × Nat) := [(50, 1), (126, 1), (127, 1), (242, 1), (243, 4), (252, 1), (256, 1), (259, 2), (279, 1), (324, 1), (334, 1), (335, 1), (373, 1), (403, 1), (404, 1), (413, 1)]
def l_agg : List (Nat × Nat) := [(7, 4), (8, 4), (13, 2), (14, 2), (18, 1), (19, 1), (36, 3), (37, 3), (42, 6), (43, 6), (45, 12), (46, 12), (50, 8), (51, 9), (52, 9), (56, 2), (57, 2), (60, 2), (61, 2), (74, 6), (75, 6), (99, 2), (100, 2), (117, 2), (118, 2), (120, 5), (121, 5), (126, 8), (127, 8), (136, 4), (137, 4), (165, 2), (166, 2), (179, 15), (180, 15), (191, 4), (192, 4), (202, 3), (203, 3), (212, 2), (213, 2), (221, 4), (222, 4), (228, 3), (229, 3), (242, 4), (243, 16), (252, 2), (256, 256), (257, 2), (258, 2), (259, 32), (279, 24), (324, 3), (326, 2), (327, 2), (328, 5), (329, 5), (334, 20), (335, 65), (347, 3), (348, 3), (353, 3), (354, 3), (373, 5), (384, 2), (385, 2), (403, 32), (404, 64), (411, 5), (412, 5), (413, 13), (414, 26), (415, 26), (420, 2), (421, 2), (427, 2), (428, 2), (429, 3), (430, 3), (467, 3), (468, 3), (476, 1), (477, 1), (480, 4), (481, 4), (482, 0), (483, 0), (484, 0), (490, 11), (491, 11)]

def chkKind (P : Program) (t : Nat) : Bool := match kindOf t with
  | none => true
  | some k => match P.underlying t with
    | some (.int k') => k == k'
    | _ => false
theorem chkKind_all : (List.range 1000).all (chkKind Tryz.prog) = true := by kernel_rfl
theorem chkKind_ok (t : Nat) (h : t < 1000) : chkKind Tryz.prog t = true := List.all_eq_true.1 chkKind_all t (List.mem_range.2 h)
def chkOne (P : Program) (t : Nat) : Bool := !one t || (match P.underlying t, P.info? t with
    | some (.struct _), _ | some (.array _ _), _ => false
    | some _, some i => i.size == 1
    | _, _ => false)
theorem chkOne_all : (List.range 1000).all (chkOne Tryz.prog) = true := by kernel_rfl
theorem chkOne_ok (t : Nat) (h : t < 1000) : chkOne Tryz.prog t = true := List.all_eq_true.1 chkOne_all t (List.mem_range.2 h)
def chkPtr (P : Program) (t : Nat) : Bool := !bit m_ptr t || (match P.underlying t with
  | some (.pointer _) => true
  | _ => false)
theorem chkPtr_all : (List.range 1000).all (chkPtr Tryz.prog) = true := by kernel_rfl
theorem chkPtr_ok (t : Nat) (h : t < 1000) : chkPtr Tryz.prog t = true := List.all_eq_true.1 chkPtr_all t (List.mem_range.2 h)
def chkFld (P : Program) (x : Nat × Nat) : Bool := match P.underlying (x.1 / 100) with
  | some (.struct fs) => match fs[x.1 % 100]? with
    | some f => f.offset == x.2 && (match P.info? f.type with
      | some i => i.size != 0
      | none => false)
    | none => false
  | _ => false
theorem chkFld_ok : l_fld.all (chkFld Tryz.prog) = true := by kernel_rfl
def chkSl (P : Program) (x : Nat × Nat) : Bool := match P.underlying x.1 with
  | some (.slice e) => match P.info? e with
    | some i => i.size == x.2
    | none => false
  | _ => false
theorem chkSl_ok : l_sl.all (chkSl Tryz.prog) = true := by kernel_rfl
def chkStr (P : Program) (t : Nat) : Bool := !isS t || (match P.underlying t with
  | some .string => true
  | _ => false)
theorem chkStr_all : (List.range 1000).all (chkStr Tryz.prog) = true := by kernel_rfl
theorem chkStr_ok (t : Nat) (h : t < 1000) : chkStr Tryz.prog t = true := List.all_eq_true.1 chkStr_all t (List.mem_range.2 h)
def chkAgg (P : Program) (x : Nat × Nat) : Bool := match P.underlying x.1, P.info? x.1 with
  | some (.struct _), some i | some (.array _ _), some i => i.size == x.2
  | _, _ => false
theorem chkAgg_ok : l_agg.all (chkAgg Tryz.prog) = true := by kernel_rfl
def chkArr (P : Program) (x : Nat × Nat) : Bool := match P.underlying x.1 with
  | some (.array n e) => n == x.2 && decide (1 < n) && (match P.info? e, get l_ae x.1 with
    | some i, some z => i.size == z
    | _, _ => false)
  | _ => false
theorem chkArr_ok : l_an.all (chkArr Tryz.prog) = true := by kernel_rfl
def m_cal : Nat := 5545339388887184800802393691735294897553608342406471146040612721092748915894734335487375156585562532923269440548898667942133891068
def cal (f : Nat) : Bool := Nat.ble (f + 1) 432 && bit m_cal f
def chkCal (P : Program) (f : Nat) : Bool := !bit m_cal f || (match P.funcs[f]? with
  | some fn => fn.body.isSome && fn.name != "runtime.NumGoroutine"
  | none => false)
theorem chkCal_all : (List.range 1000).all (chkCal Tryz.prog) = true := by kernel_rfl
theorem chkCal_ok (t : Nat) (h : t < 1000) : chkCal Tryz.prog t = true := List.all_eq_true.1 chkCal_all t (List.mem_range.2 h)
theorem mixed : Tryz.prog.follows .mixedOrders = true := by kernel_rfl
end Eng
end Go.Proofs.YtalnkjpgnkfedaaGreatDoor
