/- Lemmas: an abstract machine over the loaded program, proved sound against the model once; what the program's functions compute. -/
import Derived.Test.YtpgengahgdmhmaaK3
/- The functions of the program, as the abstract machine takes them: printed by gen2.py. -/
namespace Go.AM
set_option linter.unusedVariables false
def F_pile_New : F := ⟨1, [.inl 2],
  (.seq (.reg [.zz 0] [⟨some 2, none, .mv (.c (.nilp)), [], 0⟩] false [0] [])
  (.seq (.reg [] [⟨some 6, none, .bd ([.l .x 2 []]) [], [], 0⟩,
    ⟨some 7, none, .bg (.k 6), [], 0⟩,
    ⟨some 3, none, .mv (.k 7), [], 0⟩] false [0, 3] [])
  (.seq (.seq (.reg [] [⟨some 8, none, .mv (.k 0), [], 0⟩,
    ⟨some 9, none, .len false (.t 8), [], 0⟩,
    ⟨some 10, none, .mv (.c (.i .i64 0)), [], 0⟩] false [3, 8, 9, 10] [])
  (.blk 0 (.loop (.seq (.reg [] [⟨some 11, none, .bin .lss (.t 10) (.t 9), [], 0⟩] false [3, 8, 9, 10, 11] [])
  (.seq (.cond 11 .skip
  (.exit 0))
  (.seq (.blk 1 (.seq (.reg [] [⟨some 12, none, .ia 2 none (.t 8) (.t 10), [], 0⟩,
    ⟨some 13, none, .ld true 2 .cp (.k 12), [], 0⟩,
    ⟨some 5, none, .al ([.f .f64 0, .i .i64 0]), [], 0⟩,
    ⟨none, none, .st 2 (.t 5) (.k 13), [], 0⟩] false [3, 5, 8, 9, 10] [5])
  (.reg [] [⟨some 14, none, .mv (.t 3), [], 0⟩,
    ⟨some 15, none, .mv (.t 3), [0], 0⟩,
    ⟨some 16, none, .nc (.k 15), [0], 0⟩,
    ⟨some 17, none, .fa 0 (.k 16), [0], 0⟩,
    ⟨some 18, none, .ld false 1 .tk (.k 17), [0], 0⟩,
    ⟨some 19, none, .ld true 2 .cp (.k 5), [0, 1, 2, 3, 4], 0⟩,
    ⟨some 20, none, .callp n_pile_Item_Canon [.k 19], [0, 1, 2, 3, 4], 0⟩,
    ⟨some 21, none, .bs 2 1 (.a ([.f .f64 0, .i .i64 0])) [(0, .k 20)], [0, 1, 2, 3, 4], 0⟩,
    ⟨some 22, none, .app 2 16 (.k 18) (.k 21), [0], 0⟩,
    ⟨some 23, none, .nc (.k 14), [], 0⟩,
    ⟨some 24, none, .fa 0 (.k 23), [], 0⟩,
    ⟨none, none, .st 1 (.k 24) (.k 22), [], 0⟩] true [3, 8, 9, 10] [])))
  (.reg [] [⟨some 25, none, .bin .add (.k 10) (.c (.i .i64 1)), [], 0⟩,
    ⟨some 10, none, .mv (.k 25), [], 0⟩] false [3, 8, 9, 10] [])))))))
  (.seq (.reg [] [⟨some 26, none, .mv (.t 3), [], 0⟩,
    ⟨some 27, none, .nc (.k 26), [], 0⟩,
    ⟨some 28, none, .fa 0 (.k 27), [], 0⟩,
    ⟨some 29, none, .mi t_pile_items_u (.k 28), [], 0⟩,
    ⟨some 30, none, .call n_container_heap_Init [.k 29], [], 0⟩] false [3] [])
  (.seq (.reg [] [⟨some 31, none, .mv (.k 3), [], 0⟩,
    ⟨some 2, none, .mv (.k 31), [], 0⟩] false [2] [])
  .ret)))))⟩

def F_pile_Pile_All : F := ⟨1, [.inl 2],
  (.seq (.reg [] [⟨some 2, none, .mv (.c (.l .o 2 [])), [], 0⟩] false [0] [])
  (.seq (.reg [] [⟨some 7, none, .bs 2 0 (.a ([.f .f64 0, .i .i64 0])) [], [], 0⟩,
    ⟨some 8, none, .mv (.k 0), [], 0⟩,
    ⟨some 9, none, .nc (.k 8), [], 0⟩,
    ⟨some 10, none, .fa 0 (.k 9), [], 0⟩,
    ⟨some 11, none, .lda 1 (.k 10), [], 1⟩,
    ⟨some 12, none, .app 2 16 (.k 7) (.k 11), [], 0⟩,
    ⟨some 13, none, .bd ([.l .x 2 []]) [(0, 1, .k 12)], [], 0⟩,
    ⟨some 14, none, .bg (.k 13), [], 0⟩,
    ⟨some 3, none, .mv (.k 14), [], 0⟩] false [3] [])
  (.seq (.reg [] [⟨some 4, none, .mv (.c (.l .o 2 [])), [], 0⟩] false [3, 4] [])
  (.blk 0 (.loop (.blk 1 (.seq (.reg [] [⟨some 16, none, .mv (.t 3), [], 0⟩,
    ⟨some 17, none, .call n_pile_Pile_Take [.k 16], [], 0⟩,
    ⟨some 15, none, .mv (.k 17), [], 0⟩,
    ⟨some 18, none, .ex false 0 15, [], 0⟩,
    ⟨some 19, none, .ex false 1 15, [], 0⟩,
    ⟨some 5, none, .al ([.f .f64 0, .i .i64 0]), [], 0⟩,
    ⟨none, none, .st 2 (.t 5) (.k 18), [], 0⟩,
    ⟨some 6, none, .mv (.k 19), [], 0⟩] false [3, 4, 5, 6] [5])
  (.seq (.seq (.reg [] [⟨some 20, none, .mv (.k 6), [], 0⟩,
    ⟨some 21, none, .un .not (.k 20), [], 0⟩] false [3, 4, 5, 21] [5])
  (.cond 21 (.seq (.reg [] [⟨some 22, none, .mv (.k 4), [], 0⟩,
    ⟨some 2, none, .mv (.k 22), [], 0⟩] false [2] [])
  .ret)
  .skip))
  (.reg [] [⟨some 23, none, .mv (.k 4), [], 0⟩,
    ⟨some 24, none, .ld true 2 .cp (.k 5), [], 0⟩,
    ⟨some 25, none, .bs 2 1 (.a ([.f .f64 0, .i .i64 0])) [(0, .k 24)], [], 0⟩,
    ⟨some 26, none, .app 2 16 (.k 23) (.k 25), [], 1⟩,
    ⟨some 4, none, .mv (.k 26), [], 0⟩] false [3, 4] [])))))))))⟩

def F_c_ref04_Make : F := ⟨2, [.inr (4, true, 2)],
  (.seq (.reg [] [⟨some 4, none, .al ([.i .u64 0, .i .i64 0]), [], 0⟩] false [0, 1, 4] [4])
  (.seq (.reg [] [⟨some 5, none, .mv (.k 0), [], 0⟩,
    ⟨some 6, none, .call n_c_ref03_Bits [.k 5], [], 0⟩,
    ⟨some 7, none, .mv (.k 1), [], 0⟩,
    ⟨some 8, none, .bd ([.i .u64 0, .i .i64 0]) [(0, 1, .k 6), (1, 1, .k 7)], [], 0⟩,
    ⟨none, none, .st 2 (.t 4) (.k 8), [], 0⟩] false [4] [4])
  .ret))⟩

def F_op_Op_Check : F := ⟨2, [.inl 4],
  (.seq (.reg [] [⟨some 2, none, .bx (.k 0), [], 0⟩,
    ⟨some 4, none, .mv (.c (.i .i64 0)), [], 0⟩] false [1, 2] [2])
  (.seq (.seq (.reg [] [⟨some 7, none, .mv (.k 1), [], 0⟩,
    ⟨some 8, none, .call n_op_Of [.k 7], [], 0⟩,
    ⟨some 9, none, .len false (.t 8), [], 0⟩,
    ⟨some 10, none, .mv (.c (.i .i64 0)), [], 0⟩] false [2, 8, 9, 10] [2])
  (.blk 0 (.loop (.seq (.reg [] [⟨some 11, none, .bin .lss (.t 10) (.t 9), [], 0⟩] false [2, 8, 9, 10, 11] [2])
  (.seq (.cond 11 .skip
  (.exit 0))
  (.seq (.blk 1 (.seq (.reg [] [⟨some 12, none, .ia 1 none (.t 8) (.t 10), [], 0⟩,
    ⟨some 13, none, .ld false 1 .cp (.k 12), [], 0⟩,
    ⟨some 6, none, .mv (.k 13), [], 0⟩] false [2, 6, 8, 9, 10] [2])
  (.seq (.seq (.reg [] [⟨some 14, none, .mv (.t 6), [], 0⟩,
    ⟨some 15, none, .fa 0 (.t 2), [], 0⟩,
    ⟨some 16, none, .ld false 1 .cp (.k 15), [], 0⟩,
    ⟨some 17, none, .bin .neq (.k 14) (.k 16), [], 0⟩] false [2, 6, 8, 9, 10, 17] [2])
  (.cond 17 (.exit 1)
  .skip))
  (.seq (.seq (.reg [] [⟨some 18, none, .mv (.k 6), [], 0⟩,
    ⟨some 19, none, .bin .eql (.k 18) (.c (.i .i64 5)), [], 0⟩,
    ⟨some 20, none, .mv (.k 19), [], 0⟩,
    ⟨some 21, some (20, true), .fa 1 (.t 2), [], 0⟩,
    ⟨some 22, some (20, true), .fa 1 (.k 21), [], 0⟩,
    ⟨some 23, some (20, true), .ld false 1 .cp (.k 22), [], 0⟩,
    ⟨some 24, some (20, true), .bin .lss (.k 23) (.c (.i .i64 0)), [], 0⟩,
    ⟨some 25, some (20, true), .mv (.k 24), [], 0⟩,
    ⟨some 26, some (25, false), .fa 1 (.k 2), [], 0⟩,
    ⟨some 27, some (25, false), .fa 1 (.k 26), [], 0⟩,
    ⟨some 28, some (25, false), .ld false 1 .cp (.k 27), [], 0⟩,
    ⟨some 29, some (25, false), .bin .gtr (.k 28) (.c (.i .i64 4294967296)), [], 0⟩,
    ⟨some 30, some (20, true), .pick (.k 25) (.c (.b true)) (.k 29), [], 0⟩,
    ⟨some 31, none, .pick (.k 20) (.k 30) (.c (.b false)), [], 0⟩] false [31] [])
  (.cond 31 (.seq (.reg [] [⟨some 4, none, .mv (.c (.i .i64 4)), [], 0⟩] false [4] [])
  .ret)
  .skip))
  (.seq (.reg [] [⟨some 4, none, .mv (.c (.i .i64 0)), [], 0⟩] false [4] [])
  .ret)))))
  (.reg [] [⟨some 32, none, .bin .add (.k 10) (.c (.i .i64 1)), [], 0⟩,
    ⟨some 10, none, .mv (.k 32), [], 0⟩] false [2, 8, 9, 10] [2])))))))
  (.seq (.reg [] [⟨some 4, none, .mv (.c (.i .i64 6)), [], 0⟩] false [4] [])
  .ret)))⟩

def F_slices_Clone_pile_Item_pile_Item : F := ⟨1, [.inl 2],
  (.seq (.reg [.zz 0] [⟨some 2, none, .mv (.c (.l .o 2 [])), [], 0⟩] false [0] [])
  (.seq (.seq (.reg [] [⟨some 3, none, .mv (.t 0), [], 0⟩,
    ⟨some 4, none, .bin .eql (.k 3) (.c (.l .o 2 [])), [], 0⟩] false [0, 4] [])
  (.cond 4 (.seq (.reg [] [⟨some 2, none, .mv (.c (.l .o 2 [])), [], 0⟩] false [2] [])
  .ret)
  .skip))
  (.seq (.reg [] [⟨some 5, none, .bs 2 0 (.a ([.f .f64 0, .i .i64 0])) [], [], 1⟩,
    ⟨some 6, none, .mv (.k 0), [], 0⟩,
    ⟨some 7, none, .app 2 16 (.k 5) (.k 6), [], 1⟩,
    ⟨some 2, none, .mv (.k 7), [], 0⟩] false [2] [])
  .ret)))⟩

def F_value_Value_without : F := ⟨3, [.inr (6, true, 3), .inl 7],
  (.seq (.reg [.zz 0] [⟨some 3, none, .bx (.k 0), [], 0⟩,
    ⟨some 4, none, .bg (.k 1), [], 0⟩,
    ⟨some 6, none, .al ([.i .i64 0, .l .o 2 [], .i .i64 0]), [], 0⟩,
    ⟨some 7, none, .mv (.c (.b false)), [], 0⟩] false [2, 3, 4, 6] [3, 6])
  (.seq (.reg [] [⟨some 9, none, .fa 1 (.t 3), [], 0⟩,
    ⟨some 10, none, .ld false 1 .cp (.k 9), [], 2⟩,
    ⟨some 11, none, .mf n_value_Value_without_1 [.k 4], [], 0⟩,
    ⟨some 12, none, .call n_slices_IndexFunc_pile_Item_pile_Item [.k 10, .k 11], [], 0⟩,
    ⟨some 8, none, .mv (.k 12), [], 0⟩] false [2, 3, 6, 8] [3, 6])
  (.seq (.seq (.reg [] [⟨some 13, none, .mv (.t 8), [], 0⟩,
    ⟨some 14, none, .bin .lss (.k 13) (.c (.i .i64 0)), [], 0⟩,
    ⟨some 15, none, .mv (.k 14), [], 0⟩,
    ⟨some 16, some (15, false), .mv (.t 8), [], 0⟩,
    ⟨some 17, some (15, false), .mv (.k 2), [], 0⟩,
    ⟨some 18, some (15, false), .bin .geq (.k 16) (.k 17), [], 0⟩,
    ⟨some 19, none, .pick (.k 15) (.c (.b true)) (.k 18), [], 0⟩] false [3, 6, 8, 19] [3, 6])
  (.cond 19 (.seq (.reg [] [⟨some 20, none, .ld true 3 .tk (.k 3), [], 0⟩,
    ⟨none, none, .st 3 (.t 6) (.k 20), [], 0⟩,
    ⟨some 7, none, .mv (.c (.b false)), [], 0⟩] false [6, 7] [6])
  .ret)
  .skip))
  (.seq (.reg [] [⟨some 21, none, .fa 1 (.t 3), [], 0⟩,
    ⟨some 22, none, .ld false 1 .cp (.k 21), [], 2⟩,
    ⟨some 23, none, .call n_slices_Clone_pile_Item_pile_Item [.k 22], [], 0⟩,
    ⟨some 24, none, .mv (.t 8), [], 0⟩,
    ⟨some 25, none, .mv (.k 8), [], 0⟩,
    ⟨some 26, none, .bin .add (.k 25) (.c (.i .i64 1)), [], 0⟩,
    ⟨some 27, none, .call n_slices_Delete_pile_Item_pile_Item [.k 23, .k 24, .k 26], [], 0⟩,
    ⟨some 28, none, .fa 1 (.t 3), [], 0⟩,
    ⟨none, none, .st 1 (.k 28) (.k 27), [], 0⟩] false [3, 6] [3, 6])
  (.seq (.reg [] [⟨some 29, none, .ld true 3 .tk (.k 3), [], 0⟩,
    ⟨none, none, .st 3 (.t 6) (.k 29), [], 0⟩,
    ⟨some 7, none, .mv (.c (.b true)), [], 0⟩] false [6, 7] [6])
  .ret)))))⟩

def F_c_ref06_Of : F := ⟨1, [.inl 2, .inl 3],
  (.seq (.reg [] [⟨some 2, none, .mv (.c (.i .i64 0)), [], 0⟩,
    ⟨some 3, none, .mv (.c (.i .i64 0)), [], 0⟩] false [0] [])
  (.seq (.seq (.reg [] [⟨some 4, none, .mv (.k 0), [], 0⟩] false [4] [])
  (.blk 0 (.seq (.reg [] [⟨some 6, none, .bin .eql (.t 4) (.c (.i .i64 1)), [], 0⟩,
    ⟨some 5, none, .mv (.k 6), [], 0⟩] false [4, 5] [])
  (.cond 5 (.seq (.reg [] [⟨some 2, none, .mv (.c (.i .i64 1)), [], 0⟩,
    ⟨some 3, none, .mv (.c (.i .i64 2)), [], 0⟩] false [2, 3] [])
  .ret)
  (.seq (.reg [] [⟨some 8, none, .bin .eql (.t 4) (.c (.i .i64 2)), [], 0⟩,
    ⟨some 7, none, .mv (.k 8), [], 0⟩] false [4, 7] [])
  (.cond 7 (.seq (.reg [] [⟨some 2, none, .mv (.c (.i .i64 3)), [], 0⟩,
    ⟨some 3, none, .mv (.c (.i .i64 4)), [], 0⟩] false [2, 3] [])
  .ret)
  (.seq (.reg [] [⟨some 10, none, .bin .eql (.t 4) (.c (.i .i64 3)), [], 0⟩,
    ⟨some 9, none, .mv (.k 10), [], 0⟩] false [4, 9] [])
  (.cond 9 (.seq (.reg [] [⟨some 2, none, .mv (.c (.i .i64 5)), [], 0⟩,
    ⟨some 3, none, .mv (.c (.i .i64 6)), [], 0⟩] false [2, 3] [])
  .ret)
  (.seq (.reg [] [⟨some 12, none, .bin .eql (.k 4) (.c (.i .i64 4)), [], 0⟩,
    ⟨some 11, none, .mv (.k 12), [], 0⟩] false [11] [])
  (.cond 11 (.seq (.reg [] [⟨some 2, none, .mv (.c (.i .i64 7)), [], 0⟩,
    ⟨some 3, none, .mv (.c (.i .i64 7)), [], 0⟩] false [2, 3] [])
  .ret)
  .skip))))))))))
  (.seq (.reg [] [⟨some 2, none, .mv (.c (.i .i64 0)), [], 0⟩,
    ⟨some 3, none, .mv (.c (.i .i64 (-1))), [], 0⟩] false [2, 3] [])
  .ret)))⟩

def F_c_ref06_Into : F := ⟨2, [.inl 4],
  (.seq (.reg [] [⟨some 4, none, .mv (.c (.i .i64 0)), [], 0⟩] false [0, 1] [])
  (.seq (.seq (.reg [] [⟨some 6, none, .mv (.t 1), [], 0⟩,
    ⟨some 7, none, .bin .lss (.k 6) (.c (.i .i64 1)), [], 0⟩] false [0, 1, 7] [])
  (.cond 7 (.seq (.reg [] [⟨some 4, none, .mv (.c (.i .i64 0)), [], 0⟩] false [4] [])
  .ret)
  .skip))
  (.seq (.reg [] [⟨some 8, none, .mv (.k 0), [], 0⟩,
    ⟨some 9, none, .mv (.t 1), [], 0⟩,
    ⟨some 10, none, .bin .rem (.k 8) (.k 9), [], 0⟩,
    ⟨some 5, none, .mv (.k 10), [], 0⟩] false [1, 5] [])
  (.seq (.seq (.reg [] [⟨some 11, none, .mv (.t 5), [], 0⟩,
    ⟨some 12, none, .bin .lss (.k 11) (.c (.i .i64 0)), [], 0⟩] false [1, 5, 12] [])
  (.cond 12 (.reg [] [⟨some 13, none, .mv (.k 5), [], 0⟩,
    ⟨some 14, none, .mv (.k 1), [], 0⟩,
    ⟨some 15, none, .bin .add (.k 13) (.k 14), [], 0⟩,
    ⟨some 5, none, .mv (.k 15), [], 0⟩] false [5] [])
  .skip))
  (.seq (.reg [] [⟨some 16, none, .mv (.k 5), [], 0⟩,
    ⟨some 4, none, .mv (.k 16), [], 0⟩] false [4] [])
  .ret)))))⟩

def F_c_ref04_With : F := ⟨2, [.inl 4],
  (.seq (.reg [.zz 0] [⟨some 3, none, .bx (.k 1), [], 0⟩,
    ⟨some 4, none, .mv (.c (.l .o 2 [])), [], 0⟩] false [0, 3] [3])
  (.seq (.reg [] [⟨some 9, none, .bs 2 0 (.a ([.i .u64 0, .i .i64 0])) [], [], 1⟩,
    ⟨some 5, none, .mv (.k 9), [], 0⟩] false [0, 3, 5] [3])
  (.seq (.reg [] [⟨some 6, none, .mv (.c (.b false)), [], 0⟩] false [0, 3, 5, 6] [3])
  (.seq (.seq (.reg [] [⟨some 10, none, .mv (.k 0), [], 0⟩,
    ⟨some 11, none, .len false (.t 10), [], 0⟩,
    ⟨some 12, none, .mv (.c (.i .i64 0)), [], 0⟩] false [3, 5, 6, 10, 11, 12] [3])
  (.blk 0 (.loop (.seq (.reg [] [⟨some 13, none, .bin .lss (.t 12) (.t 11), [], 0⟩] false [3, 5, 6, 10, 11, 12, 13] [3])
  (.seq (.cond 13 .skip
  (.exit 0))
  (.seq (.blk 1 (.seq (.reg [] [⟨some 14, none, .ia 2 none (.t 10) (.t 12), [], 0⟩,
    ⟨some 15, none, .ld true 2 .cp (.k 14), [], 0⟩,
    ⟨some 8, none, .al ([.i .u64 0, .i .i64 0]), [], 0⟩,
    ⟨none, none, .st 2 (.t 8) (.k 15), [], 0⟩] false [3, 5, 6, 8, 10, 11, 12] [3, 8])
  (.seq (.seq (.reg [] [⟨some 16, none, .mv (.t 6), [], 0⟩,
    ⟨some 17, none, .un .not (.k 16), [], 0⟩,
    ⟨some 18, none, .mv (.k 17), [], 0⟩,
    ⟨some 19, some (18, true), .ld true 2 .cp (.t 3), [], 0⟩,
    ⟨some 20, some (18, true), .ld true 2 .cp (.t 8), [], 0⟩,
    ⟨some 21, some (18, true), .call n_c_ref04_Cmp [.k 19, .k 20], [], 0⟩,
    ⟨some 22, some (18, true), .bin .lss (.k 21) (.c (.i .i64 0)), [], 0⟩,
    ⟨some 23, none, .pick (.k 18) (.k 22) (.c (.b false)), [], 0⟩] false [3, 5, 6, 8, 10, 11, 12, 23] [3, 8])
  (.cond 23 (.seq (.reg [] [⟨some 24, none, .mv (.k 5), [], 0⟩,
    ⟨some 25, none, .ld true 2 .cp (.t 3), [], 0⟩,
    ⟨some 26, none, .bs 2 1 (.a ([.i .u64 0, .i .i64 0])) [(0, .k 25)], [], 0⟩,
    ⟨some 27, none, .app 2 16 (.k 24) (.k 26), [], 1⟩,
    ⟨some 5, none, .mv (.k 27), [], 0⟩] false [3, 5, 8, 10, 11, 12] [3, 8])
  (.reg [] [⟨some 6, none, .mv (.c (.b true)), [], 0⟩] false [3, 5, 6, 8, 10, 11, 12] [3, 8]))
  .skip))
  (.reg [] [⟨some 28, none, .mv (.k 5), [], 0⟩,
    ⟨some 29, none, .ld true 2 .cp (.k 8), [], 0⟩,
    ⟨some 30, none, .bs 2 1 (.a ([.i .u64 0, .i .i64 0])) [(0, .k 29)], [], 0⟩,
    ⟨some 31, none, .app 2 16 (.k 28) (.k 30), [], 1⟩,
    ⟨some 5, none, .mv (.k 31), [], 0⟩] false [3, 5, 6, 10, 11, 12] [3]))))
  (.reg [] [⟨some 32, none, .bin .add (.k 12) (.c (.i .i64 1)), [], 0⟩,
    ⟨some 12, none, .mv (.k 32), [], 0⟩] false [3, 5, 6, 10, 11, 12] [3])))))))
  (.seq (.seq (.reg [] [⟨some 33, none, .mv (.k 6), [], 0⟩,
    ⟨some 34, none, .un .not (.k 33), [], 0⟩] false [3, 5, 34] [3])
  (.cond 34 (.reg [] [⟨some 35, none, .mv (.k 5), [], 0⟩,
    ⟨some 36, none, .ld true 2 .cp (.k 3), [], 0⟩,
    ⟨some 37, none, .bs 2 1 (.a ([.i .u64 0, .i .i64 0])) [(0, .k 36)], [], 0⟩,
    ⟨some 38, none, .app 2 16 (.k 35) (.k 37), [], 1⟩,
    ⟨some 5, none, .mv (.k 38), [], 0⟩] false [5] [])
  .skip))
  (.seq (.reg [] [⟨some 39, none, .mv (.k 5), [], 0⟩,
    ⟨some 4, none, .mv (.k 39), [], 0⟩] false [4] [])
  .ret))))))⟩

def F_c_ref12_same : F := ⟨2, [.inl 4],
  (.seq (.reg [] [⟨some 2, none, .bx (.k 0), [], 0⟩,
    ⟨some 3, none, .bx (.k 1), [], 0⟩,
    ⟨some 4, none, .mv (.c (.b false)), [], 0⟩] false [2, 3] [2, 3])
  (.seq (.reg [] [⟨some 5, none, .ld true 2 .cp (.k 2), [], 0⟩,
    ⟨some 6, none, .ld true 2 .cp (.k 3), [], 0⟩,
    ⟨some 7, none, .call n_c_ref04_Cmp [.k 5, .k 6], [], 0⟩,
    ⟨some 8, none, .bin .eql (.k 7) (.c (.i .i64 0)), [], 0⟩,
    ⟨some 4, none, .mv (.k 8), [], 0⟩] false [4] [])
  .ret))⟩

def F_c_ref12_Without : F := ⟨2, [.inl 4],
  (.seq (.reg [.zz 0] [⟨some 4, none, .mv (.c (.l .o 2 [])), [], 0⟩] false [0, 1] [])
  (.seq (.reg [] [⟨some 6, none, .bs 2 0 (.a ([.i .u64 0, .i .i64 0])) [], [], 1⟩,
    ⟨some 7, none, .mv (.t 0), [], 0⟩,
    ⟨some 8, none, .mv (.t 1), [], 0⟩,
    ⟨some 9, none, .sl 2 (.k 7) none (some (.k 8)) none, [], 0⟩,
    ⟨some 10, none, .app 2 16 (.k 6) (.k 9), [], 1⟩,
    ⟨some 5, none, .mv (.k 10), [], 0⟩] false [0, 1, 5] [])
  (.seq (.reg [] [⟨some 11, none, .mv (.k 5), [], 0⟩,
    ⟨some 12, none, .mv (.k 0), [], 0⟩,
    ⟨some 13, none, .mv (.k 1), [], 0⟩,
    ⟨some 14, none, .bin .add (.k 13) (.c (.i .i64 1)), [], 0⟩,
    ⟨some 15, none, .sl 2 (.k 12) (some (.k 14)) none none, [], 0⟩,
    ⟨some 16, none, .app 2 16 (.k 11) (.k 15), [], 1⟩,
    ⟨some 4, none, .mv (.k 16), [], 0⟩] false [4] [])
  .ret)))⟩

def F_value_bag : F := ⟨2, [.inl 4],
  (.seq (.reg [] [⟨some 4, none, .mv (.c (.l .o 2 [])), [], 0⟩] false [0, 1] [])
  (.seq (.reg [] [⟨some 5, none, .mv (.c (.l .o 2 [])), [], 0⟩] false [0, 1, 5] [])
  (.seq (.seq (.reg [] [⟨some 7, none, .mv (.k 0), [], 0⟩,
    ⟨some 8, none, .mv (.c (.i .i64 0)), [], 0⟩] false [1, 5, 7, 8] [])
  (.blk 0 (.loop (.seq (.reg [] [⟨some 9, none, .bin .lss (.t 8) (.t 7), [], 0⟩] false [1, 5, 7, 8, 9] [])
  (.seq (.cond 9 .skip
  (.exit 0))
  (.seq (.blk 1 (.seq (.reg [] [⟨some 10, none, .mv (.t 8), [], 0⟩,
    ⟨some 6, none, .mv (.k 10), [], 0⟩] false [1, 5, 6, 7, 8] [])
  (.reg [] [⟨some 11, none, .mv (.k 5), [], 0⟩,
    ⟨some 12, none, .mv (.t 1), [], 0⟩,
    ⟨some 13, none, .mv (.k 6), [], 0⟩,
    ⟨some 14, none, .call n_cell_Memory_Read [.k 12, .k 13], [], 0⟩,
    ⟨some 15, none, .fd true 1 2 (.k 14), [], 0⟩,
    ⟨some 16, none, .fd false 1 1 (.k 15), [], 0⟩,
    ⟨some 17, none, .app 2 16 (.k 11) (.k 16), [], 1⟩,
    ⟨some 5, none, .mv (.k 17), [], 0⟩] false [1, 5, 7, 8] [])))
  (.reg [] [⟨some 18, none, .bin .add (.k 8) (.c (.i .i64 1)), [], 0⟩,
    ⟨some 8, none, .mv (.k 18), [], 0⟩] false [1, 5, 7, 8] [])))))))
  (.seq (.reg [] [⟨some 19, none, .mv (.k 5), [], 2⟩,
    ⟨some 20, none, .call n_pile_Sorted [.k 19], [], 0⟩,
    ⟨some 4, none, .mv (.k 20), [], 0⟩] false [4] [])
  .ret))))⟩

def F_value_line : F := ⟨1, [.inl 2],
  (.seq (.reg [] [⟨some 2, none, .mv (.c (.l .o 2 [])), [], 0⟩] false [0] [])
  (.seq (.reg [] [⟨some 3, none, .mv (.c (.l .x 3 [])), [], 0⟩] false [0, 3] [])
  (.seq (.seq (.reg [] [⟨some 4, none, .mv (.c (.i .i64 2)), [], 0⟩] false [0, 3, 4] [])
  (.blk 0 (.loop (.seq (.seq (.reg [] [⟨some 9, none, .mv (.t 4), [], 0⟩,
    ⟨some 10, none, .mv (.t 0), [], 0⟩,
    ⟨some 11, none, .call n_cell_Memory_Len [.k 10], [], 0⟩,
    ⟨some 12, none, .bin .lss (.k 9) (.k 11), [], 0⟩] false [0, 3, 4, 12] [])
  (.cond 12 .skip
  (.exit 0)))
  (.seq (.blk 1 (.seq (.reg [] [⟨some 15, none, .mv (.t 0), [], 0⟩,
    ⟨some 16, none, .mv (.t 4), [], 0⟩,
    ⟨some 17, none, .call n_cell_Memory_Read [.k 15, .k 16], [], 0⟩,
    ⟨some 5, none, .al ([.i .u64 0, .i .i64 0, .l .o 2 []]), [], 0⟩,
    ⟨none, none, .st 3 (.t 5) (.k 17), [], 0⟩] false [0, 3, 4, 5] [5])
  (.seq (.reg [] [⟨some 18, none, .fa 1 (.t 5), [], 0⟩,
    ⟨some 19, none, .fa 0 (.k 18), [], 0⟩,
    ⟨some 20, none, .ld false 1 .cp (.k 19), [], 0⟩,
    ⟨some 21, none, .bin .eql (.k 20) (.c (.i .i64 1)), [], 0⟩] false [0, 3, 4, 5, 21] [5])
  (.cond 21 (.reg [] [⟨some 22, none, .mv (.k 3), [], 0⟩,
    ⟨some 23, none, .ld true 3 .tk (.k 5), [], 0⟩,
    ⟨some 24, none, .bs 3 1 (.a ([.i .u64 0, .i .i64 0, .l .o 2 []])) [(0, .k 23)], [], 0⟩,
    ⟨some 25, none, .app 3 40 (.k 22) (.k 24), [], 0⟩,
    ⟨some 3, none, .mv (.k 25), [], 0⟩] false [0, 3, 4] [])
  .skip))))
  (.reg [] [⟨some 13, none, .mv (.k 4), [], 0⟩,
    ⟨some 14, none, .bin .add (.k 13) (.c (.i .i64 1)), [], 0⟩,
    ⟨some 4, none, .mv (.k 14), [], 0⟩] false [0, 3, 4] []))))))
  (.seq (.reg [.fz 3] [⟨some 26, none, .mv (.t 3), [], 0⟩,
    ⟨some 27, none, .call n_slices_SortFunc_cell_Cell_cell_Cell [.k 26, .c (.fn n_value_line_1 [])], [], 0⟩] false [3] [])
  (.seq (.reg [] [⟨some 6, none, .mv (.c (.l .o 2 [])), [], 0⟩] false [3, 6] [])
  (.seq (.seq (.reg [] [⟨some 28, none, .mv (.k 3), [], 0⟩,
    ⟨some 29, none, .len false (.t 28), [], 0⟩,
    ⟨some 30, none, .mv (.c (.i .i64 0)), [], 0⟩] false [6, 28, 29, 30] [])
  (.blk 2 (.loop (.seq (.reg [] [⟨some 31, none, .bin .lss (.t 30) (.t 29), [], 0⟩] false [6, 28, 29, 30, 31] [])
  (.seq (.cond 31 .skip
  (.exit 2))
  (.seq (.blk 3 (.seq (.reg [] [⟨some 32, none, .ia 3 none (.t 28) (.t 30), [], 0⟩,
    ⟨some 33, none, .ld true 3 .cp (.k 32), [], 0⟩,
    ⟨some 8, none, .al ([.i .u64 0, .i .i64 0, .l .o 2 []]), [], 0⟩,
    ⟨none, none, .st 3 (.t 8) (.k 33), [], 0⟩] false [6, 8, 28, 29, 30] [8])
  (.reg [] [⟨some 34, none, .mv (.k 6), [], 0⟩,
    ⟨some 35, none, .fa 1 (.k 8), [], 0⟩,
    ⟨some 36, none, .fa 1 (.k 35), [], 0⟩,
    ⟨some 37, none, .ld false 1 .tk (.k 36), [], 0⟩,
    ⟨some 38, none, .app 2 16 (.k 34) (.k 37), [], 1⟩,
    ⟨some 6, none, .mv (.k 38), [], 0⟩] false [6, 28, 29, 30] [])))
  (.reg [] [⟨some 39, none, .bin .add (.k 30) (.c (.i .i64 1)), [], 0⟩,
    ⟨some 30, none, .mv (.k 39), [], 0⟩] false [6, 28, 29, 30] [])))))))
  (.seq (.reg [] [⟨some 40, none, .mv (.k 6), [], 0⟩,
    ⟨some 2, none, .mv (.k 40), [], 0⟩] false [2] [])
  .ret)))))))⟩

def F_value_sum : F := ⟨3, [.inl 6],
  (.seq (.reg [] [⟨some 6, none, .mv (.c (.i .i64 0)), [], 0⟩] false [0, 1, 2] [])
  (.seq (.reg [] [⟨some 7, none, .mv (.c (.i .i64 0)), [], 0⟩] false [0, 1, 2, 7] [])
  (.seq (.seq (.reg [] [⟨some 9, none, .mv (.k 1), [], 0⟩,
    ⟨some 10, none, .mv (.c (.i .i64 0)), [], 0⟩] false [0, 2, 7, 9, 10] [])
  (.blk 0 (.loop (.seq (.reg [] [⟨some 11, none, .bin .lss (.t 10) (.t 9), [], 0⟩] false [0, 2, 7, 9, 10, 11] [])
  (.seq (.cond 11 .skip
  (.exit 0))
  (.seq (.blk 1 (.seq (.reg [] [⟨some 12, none, .mv (.t 10), [], 0⟩,
    ⟨some 8, none, .mv (.k 12), [], 0⟩] false [0, 2, 7, 8, 9, 10] [])
  (.reg [] [⟨some 13, none, .mv (.k 7), [], 0⟩,
    ⟨some 14, none, .mv (.t 2), [], 0⟩,
    ⟨some 15, none, .mv (.t 0), [], 0⟩,
    ⟨some 16, none, .mv (.k 8), [], 0⟩,
    ⟨some 17, none, .bin .add (.k 15) (.k 16), [], 0⟩,
    ⟨some 18, none, .call n_cell_Memory_Read [.k 14, .k 17], [], 0⟩,
    ⟨some 19, none, .fd true 1 2 (.k 18), [], 0⟩,
    ⟨some 20, none, .fd false 0 1 (.k 19), [], 0⟩,
    ⟨some 21, none, .bin .add (.k 13) (.k 20), [], 0⟩,
    ⟨some 7, none, .mv (.k 21), [], 0⟩] false [0, 2, 7, 9, 10] [])))
  (.reg [] [⟨some 22, none, .bin .add (.k 10) (.c (.i .i64 1)), [], 0⟩,
    ⟨some 10, none, .mv (.k 22), [], 0⟩] false [0, 2, 7, 9, 10] [])))))))
  (.seq (.reg [] [⟨some 23, none, .mv (.k 7), [], 0⟩,
    ⟨some 6, none, .mv (.k 23), [], 0⟩] false [6] [])
  .ret))))⟩

def F_net_New : F := ⟨1, [.inr (2, true, 3), .inl 3],
  (.seq (.reg [] [⟨some 2, none, .al ([.i .i64 0, .l .o 2 [], .l .o 1 []]), [], 0⟩,
    ⟨some 3, none, .mv (.c (.i .i64 0)), [], 0⟩] false [0, 2] [2])
  (.seq (.reg [] [⟨some 7, none, .mv (.k 0), [], 0⟩,
    ⟨some 8, none, .call n_wire_Make [.k 7], [], 0⟩,
    ⟨some 6, none, .mv (.k 8), [], 0⟩,
    ⟨some 9, none, .ex false 0 6, [], 0⟩,
    ⟨some 10, none, .ex false 1 6, [], 0⟩,
    ⟨some 4, none, .al ([.i .i64 0, .l .o 2 [], .l .o 1 []]), [], 0⟩,
    ⟨none, none, .st 3 (.t 4) (.k 9), [], 0⟩,
    ⟨some 5, none, .mv (.k 10), [], 0⟩] false [2, 4, 5] [2, 4])
  (.seq (.reg [] [⟨some 11, none, .ld true 3 .tk (.k 4), [], 0⟩,
    ⟨some 12, none, .bd ([.i .i64 0, .l .o 2 [], .l .o 1 []]) [(0, 3, .k 11)], [], 0⟩,
    ⟨some 13, none, .mv (.k 5), [], 0⟩,
    ⟨none, none, .st 3 (.t 2) (.k 12), [], 0⟩,
    ⟨some 3, none, .mv (.k 13), [], 0⟩] false [2, 3] [2])
  .ret)))⟩

def F_net_Net_Out : F := ⟨2, [.inl 4],
  (.seq (.reg [.zz 0] [⟨some 2, none, .bx (.k 0), [], 0⟩,
    ⟨some 4, none, .mv (.c (.i .i64 0)), [], 0⟩] false [1, 2] [2])
  (.seq (.reg [] [⟨some 5, none, .fa 0 (.k 2), [], 0⟩,
    ⟨some 6, none, .fa 1 (.k 5), [], 0⟩,
    ⟨some 7, none, .ld false 1 .tk (.k 6), [], 0⟩,
    ⟨some 8, none, .len false (.k 7), [], 0⟩,
    ⟨some 9, none, .mv (.k 1), [], 0⟩,
    ⟨some 10, none, .bin .add (.k 8) (.k 9), [], 0⟩,
    ⟨some 4, none, .mv (.k 10), [], 0⟩] false [4] [])
  .ret))⟩

def F_real_Key : F := ⟨1, [.inl 2],
  (.seq (.reg [] [⟨some 2, none, .mv (.c (.i .u64 0)), [], 0⟩] false [0] [])
  (.seq (.reg [] [⟨some 4, none, .mv (.k 0), [], 0⟩,
    ⟨some 5, none, .call n_real_Canon [.k 4], [], 0⟩,
    ⟨some 6, none, .bits (.k 5), [], 0⟩,
    ⟨some 3, none, .mv (.k 6), [], 0⟩] false [3] [])
  (.seq (.seq (.reg [] [⟨some 7, none, .mv (.t 3), [], 0⟩,
    ⟨some 8, none, .bin .and (.k 7) (.c (.i .u64 9223372036854775808)), [], 0⟩,
    ⟨some 9, none, .bin .neq (.k 8) (.c (.i .u64 0)), [], 0⟩] false [3, 9] [])
  (.cond 9 (.seq (.reg [] [⟨some 10, none, .mv (.k 3), [], 0⟩,
    ⟨some 11, none, .un .xor (.k 10), [], 0⟩,
    ⟨some 2, none, .mv (.k 11), [], 0⟩] false [2] [])
  .ret)
  .skip))
  (.seq (.reg [] [⟨some 12, none, .mv (.k 3), [], 0⟩,
    ⟨some 13, none, .bin .or (.k 12) (.c (.i .u64 9223372036854775808)), [], 0⟩,
    ⟨some 2, none, .mv (.k 13), [], 0⟩] false [2] [])
  .ret))))⟩

def F_cell_Memory_Write : F := ⟨4, [.inl 8],
  (.seq (.reg [.zz 3] [⟨some 7, none, .bx (.k 3), [], 0⟩,
    ⟨some 8, none, .mv (.c (.b false)), [], 0⟩] false [0, 1, 2, 7] [7])
  (.seq (.seq (.reg [] [⟨some 9, none, .mv (.t 1), [], 0⟩,
    ⟨some 10, none, .bin .lss (.k 9) (.c (.i .i64 0)), [], 0⟩,
    ⟨some 11, none, .mv (.k 10), [], 0⟩,
    ⟨some 12, some (11, false), .mv (.t 1), [], 0⟩,
    ⟨some 13, some (11, false), .bin .geq (.k 12) (.c (.i .i64 1000)), [], 0⟩,
    ⟨some 14, none, .pick (.k 11) (.c (.b true)) (.k 13), [], 0⟩,
    ⟨some 15, none, .mv (.k 14), [], 0⟩,
    ⟨some 16, some (15, false), .mv (.t 0), [], 0⟩,
    ⟨some 17, some (15, false), .mv (.t 1), [], 0⟩,
    ⟨some 18, some (15, false), .call n_cell_Memory_Read [.k 16, .k 17], [], 0⟩,
    ⟨some 19, some (15, false), .fd false 0 1 (.k 18), [], 0⟩,
    ⟨some 20, some (15, false), .mv (.k 2), [], 0⟩,
    ⟨some 21, some (15, false), .bin .neq (.k 19) (.k 20), [], 0⟩,
    ⟨some 22, none, .pick (.k 15) (.c (.b true)) (.k 21), [], 0⟩] false [0, 1, 7, 22] [7])
  (.cond 22 (.seq (.reg [] [⟨some 8, none, .mv (.c (.b false)), [], 0⟩] false [8] [])
  .ret)
  .skip))
  (.seq (.blk 0 (.loop (.seq (.seq (.reg [] [⟨some 23, none, .mv (.t 0), [], 0⟩,
    ⟨some 24, none, .nc (.k 23), [], 0⟩,
    ⟨some 25, none, .fa 0 (.k 24), [], 0⟩,
    ⟨some 26, none, .lda 1 (.k 25), [], 1⟩,
    ⟨some 27, none, .len false (.k 26), [], 0⟩,
    ⟨some 28, none, .mv (.t 1), [], 0⟩,
    ⟨some 29, none, .bin .leq (.k 27) (.k 28), [], 0⟩] false [0, 1, 7, 29] [7])
  (.cond 29 .skip
  (.exit 0)))
  (.blk 1 (.reg [] [⟨some 30, none, .mv (.t 0), [], 0⟩,
    ⟨some 31, none, .mv (.t 0), [], 0⟩,
    ⟨some 32, none, .nc (.k 31), [], 0⟩,
    ⟨some 33, none, .fa 0 (.k 32), [], 0⟩,
    ⟨some 34, none, .ld false 1 .tk (.k 33), [], 0⟩,
    ⟨some 35, none, .bd ([.i .u64 0, .i .i64 0, .l .o 2 []]) [], [], 0⟩,
    ⟨some 36, none, .bs 3 1 (.a ([.i .u64 0, .i .i64 0, .l .o 2 []])) [(0, .k 35)], [], 0⟩,
    ⟨some 37, none, .app 3 40 (.k 34) (.k 36), [], 0⟩,
    ⟨some 38, none, .nc (.k 30), [], 0⟩,
    ⟨some 39, none, .fa 0 (.k 38), [], 0⟩,
    ⟨none, none, .st 1 (.k 39) (.k 37), [], 0⟩] false [0, 1, 7] [7])))))
  (.seq (.reg [] [⟨some 40, none, .mv (.t 0), [], 0⟩,
    ⟨some 41, none, .nc (.t 40), [], 0⟩,
    ⟨some 42, none, .fa 1 (.k 41), [], 0⟩,
    ⟨some 43, none, .ld false 1 .cp (.k 42), [], 0⟩,
    ⟨some 44, none, .bin .add (.k 43) (.c (.i .u64 1)), [], 0⟩,
    ⟨some 45, none, .nc (.k 40), [], 0⟩,
    ⟨some 46, none, .fa 1 (.k 45), [], 0⟩,
    ⟨none, none, .st 1 (.k 46) (.k 44), [], 0⟩] false [0, 1, 7] [7])
  (.seq (.reg [] [⟨some 47, none, .mv (.t 0), [], 0⟩,
    ⟨some 48, none, .nc (.k 47), [], 0⟩,
    ⟨some 49, none, .fa 0 (.k 48), [], 0⟩,
    ⟨some 50, none, .lda 1 (.k 49), [], 0⟩,
    ⟨some 51, none, .mv (.k 1), [0, 1, 2, 3], 0⟩,
    ⟨some 52, none, .mv (.t 0), [0, 1, 2, 3, 4], 0⟩,
    ⟨some 53, none, .nc (.k 52), [0, 1, 2, 3, 4], 0⟩,
    ⟨some 54, none, .fa 1 (.k 53), [0, 1, 2, 3, 4], 0⟩,
    ⟨some 55, none, .ld false 1 .cp (.k 54), [0, 1, 2, 3, 4], 0⟩,
    ⟨some 56, none, .ld true 2 .cp (.k 7), [0, 1, 2, 3, 4, 5, 6, 7, 8], 2⟩,
    ⟨some 57, none, .callp n_cell_Value_Clone [.k 56], [0, 1, 2, 3, 4, 5, 6, 7, 8], 0⟩,
    ⟨some 58, none, .bd ([.i .u64 0, .i .i64 0, .l .o 2 []]) [(0, 1, .k 55), (1, 2, .k 57)], [0, 1, 2, 3, 4], 0⟩,
    ⟨some 59, none, .ia 3 none (.k 50) (.k 51), [], 0⟩,
    ⟨none, none, .st 3 (.k 59) (.k 58), [], 0⟩] true [] [])
  (.seq (.reg [] [⟨some 8, none, .mv (.c (.b true)), [], 0⟩] false [8] [])
  .ret))))))⟩

def F_kfifo_New : F := ⟨1, [.inr (2, true, 1), .inl 3],
  (.seq (.reg [] [⟨some 2, none, .al ([.i .i64 0]), [], 0⟩,
    ⟨some 3, none, .mv (.c (.i .i64 0)), [], 0⟩] false [0, 2] [2])
  (.seq (.seq (.reg [] [⟨some 5, none, .mv (.t 0), [], 0⟩,
    ⟨some 6, none, .call n_op_Legal [.c (.i .i64 2), .k 5], [], 0⟩,
    ⟨some 4, none, .mv (.k 6), [], 0⟩] false [0, 2, 4] [2])
  (.seq (.reg [] [⟨some 7, none, .mv (.t 4), [], 0⟩,
    ⟨some 8, none, .bin .neq (.k 7) (.c (.i .i64 0)), [], 0⟩] false [0, 2, 4, 8] [2])
  (.cond 8 (.seq (.reg [] [⟨some 9, none, .bd ([.i .i64 0]) [], [], 0⟩,
    ⟨some 10, none, .mv (.k 4), [], 0⟩,
    ⟨none, none, .st 1 (.t 2) (.k 9), [], 0⟩,
    ⟨some 3, none, .mv (.k 10), [], 0⟩] false [2, 3] [2])
  .ret)
  .skip)))
  (.seq (.reg [] [⟨some 11, none, .mv (.k 0), [], 0⟩,
    ⟨some 12, none, .bd ([.i .i64 0]) [(0, 1, .k 11)], [], 0⟩,
    ⟨none, none, .st 1 (.t 2) (.k 12), [], 0⟩,
    ⟨some 3, none, .mv (.c (.i .i64 0)), [], 0⟩] false [2, 3] [2])
  .ret)))⟩

def F_kfifo_Queue_Slot : F := ⟨3, [.inl 6],
  (.seq (.reg [] [⟨some 3, none, .bx (.k 0), [], 0⟩,
    ⟨some 6, none, .mv (.c (.i .i64 0)), [], 0⟩] false [1, 2, 3] [3])
  (.seq (.reg [] [⟨some 7, none, .mv (.k 1), [], 0⟩,
    ⟨some 8, none, .fa 0 (.k 3), [], 0⟩,
    ⟨some 9, none, .ld false 1 .cp (.k 8), [], 0⟩,
    ⟨some 10, none, .bin .mul (.k 7) (.k 9), [], 0⟩,
    ⟨some 11, none, .bin .add (.c (.i .i64 2)) (.k 10), [], 0⟩,
    ⟨some 12, none, .mv (.k 2), [], 0⟩,
    ⟨some 13, none, .bin .add (.k 11) (.k 12), [], 0⟩,
    ⟨some 6, none, .mv (.k 13), [], 0⟩] false [6] [])
  .ret))⟩

def F_c_ref04_Cmp : F := ⟨2, [.inl 4],
  (.seq (.reg [] [⟨some 2, none, .bx (.k 0), [], 0⟩,
    ⟨some 3, none, .bx (.k 1), [], 0⟩,
    ⟨some 4, none, .mv (.c (.i .i64 0)), [], 0⟩] false [2, 3] [2, 3])
  (.seq (.reg [] [⟨some 6, none, .fa 0 (.t 2), [], 0⟩,
    ⟨some 7, none, .ld false 1 .cp (.k 6), [], 0⟩,
    ⟨some 8, none, .fa 0 (.t 3), [], 0⟩,
    ⟨some 9, none, .ld false 1 .cp (.k 8), [], 0⟩,
    ⟨some 10, none, .call n_c_ref03_Cmp [.k 7, .k 9], [], 0⟩,
    ⟨some 5, none, .mv (.k 10), [], 0⟩] false [2, 3, 5] [2, 3])
  (.seq (.seq (.reg [] [⟨some 11, none, .mv (.t 5), [], 0⟩,
    ⟨some 12, none, .bin .eql (.k 11) (.c (.i .i64 0)), [], 0⟩,
    ⟨some 13, none, .mv (.k 12), [], 0⟩,
    ⟨some 14, some (13, true), .fa 1 (.t 2), [], 0⟩,
    ⟨some 15, some (13, true), .ld false 1 .cp (.k 14), [], 0⟩,
    ⟨some 16, some (13, true), .fa 1 (.t 3), [], 0⟩,
    ⟨some 17, some (13, true), .ld false 1 .cp (.k 16), [], 0⟩,
    ⟨some 18, some (13, true), .bin .lss (.k 15) (.k 17), [], 0⟩,
    ⟨some 19, none, .pick (.k 13) (.k 18) (.c (.b false)), [], 0⟩] false [2, 3, 5, 19] [2, 3])
  (.cond 19 (.reg [] [⟨some 5, none, .mv (.c (.i .i64 (-1))), [], 0⟩] false [2, 3, 5] [2, 3])
  .skip))
  (.seq (.seq (.reg [] [⟨some 20, none, .mv (.t 5), [], 0⟩,
    ⟨some 21, none, .bin .eql (.k 20) (.c (.i .i64 0)), [], 0⟩,
    ⟨some 22, none, .mv (.k 21), [], 0⟩,
    ⟨some 23, some (22, true), .fa 1 (.k 2), [], 0⟩,
    ⟨some 24, some (22, true), .ld false 1 .cp (.k 23), [], 0⟩,
    ⟨some 25, some (22, true), .fa 1 (.k 3), [], 0⟩,
    ⟨some 26, some (22, true), .ld false 1 .cp (.k 25), [], 0⟩,
    ⟨some 27, some (22, true), .bin .gtr (.k 24) (.k 26), [], 0⟩,
    ⟨some 28, none, .pick (.k 22) (.k 27) (.c (.b false)), [], 0⟩] false [5, 28] [])
  (.cond 28 (.reg [] [⟨some 5, none, .mv (.c (.i .i64 1)), [], 0⟩] false [5] [])
  .skip))
  (.seq (.reg [] [⟨some 29, none, .mv (.k 5), [], 0⟩,
    ⟨some 4, none, .mv (.k 29), [], 0⟩] false [4] [])
  .ret)))))⟩

def F_c_ref10_Merge : F := ⟨2, [.inr (4, true, 2)],
  (.seq (.reg [.zz 0, .zz 1] [⟨some 4, none, .al ([.l .o 1 [], .l .o 1 []]), [], 0⟩] false [0, 1, 4] [4])
  (.seq (.seq (.reg [] [⟨some 9, none, .mv (.t 0), [], 0⟩,
    ⟨some 10, none, .len false (.k 9), [], 0⟩,
    ⟨some 11, none, .bin .lss (.k 10) (.c (.i .i64 2)), [], 0⟩] false [0, 1, 4, 11] [4])
  (.cond 11 (.seq (.reg [] [⟨some 12, none, .mv (.t 0), [], 0⟩,
    ⟨some 13, none, .ia 1 none (.k 12) (.c (.i .i64 0)), [], 0⟩,
    ⟨some 14, none, .ld false 1 .cp (.k 13), [], 0⟩,
    ⟨some 15, none, .mv (.t 1), [0, 1, 2], 0⟩,
    ⟨some 16, none, .ia 1 none (.k 15) (.c (.i .i64 0)), [0, 1, 2], 0⟩,
    ⟨some 17, none, .ld false 1 .cp (.k 16), [0, 1, 2], 0⟩,
    ⟨some 18, none, .bs 1 2 (.i .i64 0) [(0, .k 14), (1, .k 17)], [], 1⟩,
    ⟨some 19, none, .mv (.t 0), [0, 1, 2, 3, 4, 5, 6], 0⟩,
    ⟨some 20, none, .ia 1 none (.k 19) (.c (.i .i64 0)), [0, 1, 2, 3, 4, 5, 6], 0⟩,
    ⟨some 21, none, .ld false 1 .cp (.k 20), [0, 1, 2, 3, 4, 5, 6], 0⟩,
    ⟨some 22, none, .mv (.t 1), [0, 1, 2, 3, 4, 5, 6, 7, 8, 9], 0⟩,
    ⟨some 23, none, .ia 1 none (.k 22) (.c (.i .i64 0)), [0, 1, 2, 3, 4, 5, 6, 7, 8, 9], 0⟩,
    ⟨some 24, none, .ld false 1 .cp (.k 23), [0, 1, 2, 3, 4, 5, 6, 7, 8, 9], 0⟩,
    ⟨some 25, none, .bs 1 2 (.i .i64 0) [(0, .k 21), (1, .k 24)], [0, 1, 2, 3, 4, 5, 6], 1⟩,
    ⟨some 26, none, .bd ([.l .o 1 [], .l .o 1 []]) [(0, 1, .k 18), (1, 1, .k 25)], [], 0⟩,
    ⟨none, none, .st 2 (.t 4) (.k 26), [], 0⟩] true [4] [4])
  .ret)
  .skip))
  (.seq (.reg [] [⟨some 27, none, .mv (.t 0), [], 2⟩,
    ⟨some 28, none, .call n_c_ref10_pick [.k 27, .c (.i .i64 0)], [], 2⟩,
    ⟨some 29, none, .mv (.t 1), [], 2⟩,
    ⟨some 30, none, .call n_c_ref10_pick [.k 29, .c (.i .i64 1)], [], 2⟩,
    ⟨some 31, none, .call n_c_ref10_Merge [.k 28, .k 30], [], 0⟩,
    ⟨some 5, none, .al ([.l .o 1 [], .l .o 1 []]), [], 0⟩,
    ⟨none, none, .st 2 (.t 5) (.k 31), [], 0⟩] false [0, 1, 4, 5] [4, 5])
  (.seq (.reg [] [⟨some 32, none, .mv (.k 0), [], 2⟩,
    ⟨some 33, none, .call n_c_ref10_pick [.k 32, .c (.i .i64 1)], [], 2⟩,
    ⟨some 34, none, .mv (.k 1), [], 2⟩,
    ⟨some 35, none, .call n_c_ref10_pick [.k 34, .c (.i .i64 0)], [], 2⟩,
    ⟨some 36, none, .call n_c_ref10_Merge [.k 33, .k 35], [], 0⟩,
    ⟨some 6, none, .al ([.l .o 1 [], .l .o 1 []]), [], 0⟩,
    ⟨none, none, .st 2 (.t 6) (.k 36), [], 0⟩] false [4, 5, 6] [4, 5, 6])
  (.seq (.reg [] [⟨some 37, none, .bs 1 0 (.i .i64 0) [], [], 1⟩,
    ⟨some 38, none, .fa 0 (.t 5), [0], 0⟩,
    ⟨some 39, none, .ld false 1 .cp (.k 38), [0], 0⟩,
    ⟨some 40, none, .app 1 8 (.k 37) (.k 39), [], 1⟩,
    ⟨some 41, none, .fa 0 (.t 6), [0, 1, 2, 3], 0⟩,
    ⟨some 42, none, .ld false 1 .cp (.k 41), [0, 1, 2, 3], 0⟩,
    ⟨some 43, none, .app 1 8 (.k 40) (.k 42), [], 1⟩,
    ⟨some 44, none, .bs 1 0 (.i .i64 0) [], [0, 1, 2, 3, 4, 5, 6], 1⟩,
    ⟨some 45, none, .bd ([.l .o 1 [], .l .o 1 []]) [(0, 1, .k 43), (1, 1, .k 44)], [], 0⟩,
    ⟨some 7, none, .al ([.l .o 1 [], .l .o 1 []]), [0, 1, 2, 3, 4, 5, 6, 7, 8], 0⟩,
    ⟨none, none, .st 2 (.t 7) (.k 45), [], 0⟩] true [4, 5, 6, 7] [4, 5, 6, 7])
  (.seq (.seq (.reg [] [⟨some 46, none, .fa 1 (.t 5), [], 0⟩,
    ⟨some 47, none, .ld false 1 .cp (.k 46), [], 0⟩,
    ⟨some 48, none, .len false (.k 47), [], 0⟩,
    ⟨some 49, none, .mv (.c (.i .i64 0)), [], 0⟩] false [4, 5, 6, 7, 48, 49] [4, 5, 6, 7])
  (.blk 0 (.loop (.seq (.reg [] [⟨some 50, none, .bin .lss (.t 49) (.t 48), [], 0⟩] false [4, 5, 6, 7, 48, 49, 50] [4, 5, 6, 7])
  (.seq (.cond 50 .skip
  (.exit 0))
  (.seq (.blk 1 (.seq (.reg [] [⟨some 51, none, .mv (.t 49), [], 0⟩,
    ⟨some 8, none, .mv (.k 51), [], 0⟩] false [4, 5, 6, 7, 8, 48, 49] [4, 5, 6, 7])
  (.seq (.reg [] [⟨some 52, none, .fa 0 (.t 7), [], 0⟩,
    ⟨some 53, none, .ld false 1 .tk (.k 52), [], 0⟩,
    ⟨some 54, none, .fa 1 (.t 5), [0, 1], 0⟩,
    ⟨some 55, none, .ld false 1 .cp (.k 54), [0, 1], 0⟩,
    ⟨some 56, none, .mv (.t 8), [0, 1, 2, 3], 0⟩,
    ⟨some 57, none, .ia 1 none (.k 55) (.k 56), [0, 1], 0⟩,
    ⟨some 58, none, .ld false 1 .cp (.k 57), [0, 1], 0⟩,
    ⟨some 59, none, .fa 1 (.t 6), [0, 1, 2, 3, 4, 5, 6], 0⟩,
    ⟨some 60, none, .ld false 1 .cp (.k 59), [0, 1, 2, 3, 4, 5, 6], 0⟩,
    ⟨some 61, none, .mv (.t 8), [0, 1, 2, 3, 4, 5, 6, 7, 8], 0⟩,
    ⟨some 62, none, .ia 1 none (.k 60) (.k 61), [0, 1, 2, 3, 4, 5, 6], 0⟩,
    ⟨some 63, none, .ld false 1 .cp (.k 62), [0, 1, 2, 3, 4, 5, 6], 0⟩,
    ⟨some 64, none, .bs 1 2 (.i .i64 0) [(0, .k 58), (1, .k 63)], [0, 1], 0⟩,
    ⟨some 65, none, .app 1 8 (.k 53) (.k 64), [], 1⟩,
    ⟨some 66, none, .fa 0 (.t 7), [], 0⟩,
    ⟨none, none, .st 1 (.k 66) (.k 65), [], 0⟩] true [4, 5, 6, 7, 8, 48, 49] [4, 5, 6, 7])
  (.reg [] [⟨some 67, none, .fa 1 (.t 7), [], 0⟩,
    ⟨some 68, none, .ld false 1 .tk (.k 67), [], 0⟩,
    ⟨some 69, none, .fa 1 (.t 5), [0, 1], 0⟩,
    ⟨some 70, none, .ld false 1 .cp (.k 69), [0, 1], 0⟩,
    ⟨some 71, none, .mv (.t 8), [0, 1, 2, 3], 0⟩,
    ⟨some 72, none, .ia 1 none (.k 70) (.k 71), [0, 1], 0⟩,
    ⟨some 73, none, .ld false 1 .cp (.k 72), [0, 1], 0⟩,
    ⟨some 74, none, .fa 1 (.t 6), [0, 1, 2, 3, 4, 5, 6], 0⟩,
    ⟨some 75, none, .ld false 1 .cp (.k 74), [0, 1, 2, 3, 4, 5, 6], 0⟩,
    ⟨some 76, none, .mv (.t 8), [0, 1, 2, 3, 4, 5, 6, 7, 8], 0⟩,
    ⟨some 77, none, .ia 1 none (.k 75) (.k 76), [0, 1, 2, 3, 4, 5, 6], 0⟩,
    ⟨some 78, none, .ld false 1 .cp (.k 77), [0, 1, 2, 3, 4, 5, 6], 0⟩,
    ⟨some 79, none, .bs 1 2 (.i .i64 0) [(0, .k 73), (1, .k 78)], [0, 1], 0⟩,
    ⟨some 80, none, .app 1 8 (.k 68) (.k 79), [], 1⟩,
    ⟨some 81, none, .fa 1 (.t 7), [], 0⟩,
    ⟨none, none, .st 1 (.k 81) (.k 80), [], 0⟩] true [4, 5, 6, 7, 48, 49] [4, 5, 6, 7]))))
  (.reg [] [⟨some 82, none, .bin .add (.k 49) (.c (.i .i64 1)), [], 0⟩,
    ⟨some 49, none, .mv (.k 82), [], 0⟩] false [4, 5, 6, 7, 48, 49] [4, 5, 6, 7])))))))
  (.seq (.reg [] [⟨some 83, none, .ld true 2 .tk (.k 7), [], 0⟩,
    ⟨none, none, .st 2 (.t 4) (.k 83), [], 0⟩] false [4] [4])
  .ret)))))))⟩

def F_c_ref03_Bits : F := ⟨1, [.inl 2],
  (.seq (.reg [] [⟨some 2, none, .mv (.c (.i .u64 0)), [], 0⟩] false [0] [])
  (.seq (.seq (.reg [] [⟨some 3, none, .mv (.t 0), [], 0⟩,
    ⟨some 4, none, .bin .rem (.k 3) (.c (.i .u64 9223372036854775808)), [], 0⟩,
    ⟨some 5, none, .bin .gtr (.k 4) (.c (.i .u64 9218868437227405312)), [], 0⟩] false [0, 5] [])
  (.cond 5 (.seq (.reg [] [⟨some 2, none, .mv (.c (.i .u64 9221120237041090560)), [], 0⟩] false [2] [])
  .ret)
  .skip))
  (.seq (.reg [] [⟨some 6, none, .mv (.k 0), [], 0⟩,
    ⟨some 2, none, .mv (.k 6), [], 0⟩] false [2] [])
  .ret)))⟩

def F_cell_Value_Clone : F := ⟨1, [.inr (2, true, 2)],
  (.seq (.reg [.zz 0] [⟨some 1, none, .bx (.k 0), [], 0⟩,
    ⟨some 2, none, .al ([.i .i64 0, .l .o 2 []]), [], 0⟩] false [1, 2] [1, 2])
  (.seq (.reg [] [⟨some 3, none, .fa 0 (.t 1), [], 0⟩,
    ⟨some 4, none, .ld false 1 .cp (.k 3), [], 0⟩,
    ⟨some 5, none, .fa 1 (.t 1), [0, 1], 0⟩,
    ⟨some 6, none, .ld false 1 .cp (.k 5), [0, 1], 0⟩,
    ⟨some 7, none, .app 2 16 (.c (.l .o 2 [])) (.k 6), [0, 1], 1⟩,
    ⟨some 8, none, .bd ([.i .i64 0, .l .o 2 []]) [(0, 1, .k 4), (1, 1, .k 7)], [], 0⟩,
    ⟨none, none, .st 2 (.t 2) (.k 8), [], 0⟩] true [2] [2])
  .ret))⟩

def F_c_law04_Is : F := ⟨2, [.inl 4],
  (.seq (.reg [] [⟨some 2, none, .bx (.k 0), [], 0⟩,
    ⟨some 3, none, .bx (.k 1), [], 0⟩,
    ⟨some 4, none, .mv (.c (.i .i64 0)), [], 0⟩] false [2, 3] [2, 3])
  (.seq (.seq (.reg [] [⟨some 5, none, .fa 0 (.t 2), [], 0⟩,
    ⟨some 6, none, .ld false 1 .cp (.k 5), [], 0⟩,
    ⟨some 7, none, .bits (.k 6), [], 0⟩,
    ⟨some 8, none, .fa 0 (.t 3), [0, 1, 2], 0⟩,
    ⟨some 9, none, .ld false 1 .cp (.k 8), [0, 1, 2], 0⟩,
    ⟨some 10, none, .bin .neq (.k 7) (.k 9), [], 0⟩,
    ⟨some 11, none, .mv (.k 10), [], 0⟩,
    ⟨some 12, some (11, false), .fa 1 (.t 2), [], 0⟩,
    ⟨some 13, some (11, false), .ld false 1 .cp (.k 12), [], 0⟩,
    ⟨some 14, some (11, false), .fa 1 (.t 3), [7, 8], 0⟩,
    ⟨some 15, some (11, false), .ld false 1 .cp (.k 14), [7, 8], 0⟩,
    ⟨some 16, some (11, false), .bin .neq (.k 13) (.k 15), [], 0⟩,
    ⟨some 17, none, .pick (.t 11) (.c (.b true)) (.k 16), [], 0⟩] true [17] [])
  (.cond 17 (.seq (.reg [] [⟨some 4, none, .mv (.c (.i .i64 (-1))), [], 0⟩] false [4] [])
  .ret)
  .skip))
  (.seq (.reg [] [⟨some 4, none, .mv (.c (.i .i64 0)), [], 0⟩] false [4] [])
  .ret)))⟩

def F_engine_machine : F := ⟨2, [.inl 4, .inl 5],
  (.seq (.reg [] [⟨some 4, none, .mv (.c (.nili)), [], 0⟩,
    ⟨some 5, none, .mv (.c (.i .i64 0)), [], 0⟩] false [0, 1] [])
  (.seq (.seq (.reg [] [⟨some 6, none, .mv (.k 0), [], 0⟩] false [1, 6] [])
  (.blk 0 (.seq (.reg [] [⟨some 8, none, .bin .eql (.t 6) (.c (.i .i64 1)), [], 0⟩,
    ⟨some 7, none, .mv (.k 8), [], 0⟩] false [1, 6, 7] [])
  (.cond 7 (.seq (.reg [] [⟨some 9, none, .mv (.k 1), [], 0⟩,
    ⟨some 10, none, .call n_multi_New [.k 9], [], 0⟩,
    ⟨some 11, none, .ex false 0 10, [], 0⟩,
    ⟨some 12, none, .ex false 1 10, [], 0⟩,
    ⟨some 13, none, .mi t_multi_Multi (.k 11), [], 0⟩,
    ⟨some 4, none, .mv (.k 13), [], 0⟩,
    ⟨some 5, none, .mv (.k 12), [], 0⟩] false [4, 5] [])
  .ret)
  (.seq (.reg [] [⟨some 15, none, .bin .eql (.t 6) (.c (.i .i64 2)), [], 0⟩,
    ⟨some 14, none, .mv (.k 15), [], 0⟩] false [1, 6, 14] [])
  (.cond 14 (.seq (.reg [] [⟨some 16, none, .mv (.k 1), [], 0⟩,
    ⟨some 17, none, .call n_kfifo_New [.k 16], [], 0⟩,
    ⟨some 18, none, .ex false 0 17, [], 0⟩,
    ⟨some 19, none, .ex false 1 17, [], 0⟩,
    ⟨some 20, none, .mi t_kfifo_Queue (.k 18), [], 0⟩,
    ⟨some 4, none, .mv (.k 20), [], 0⟩,
    ⟨some 5, none, .mv (.k 19), [], 0⟩] false [4, 5] [])
  .ret)
  (.seq (.reg [] [⟨some 22, none, .bin .eql (.t 6) (.c (.i .i64 3)), [], 0⟩,
    ⟨some 21, none, .mv (.k 22), [], 0⟩] false [1, 6, 21] [])
  (.cond 21 (.seq (.reg [] [⟨some 23, none, .mv (.k 1), [], 0⟩,
    ⟨some 24, none, .call n_tally_New [.k 23], [], 0⟩,
    ⟨some 25, none, .ex false 0 24, [], 0⟩,
    ⟨some 26, none, .ex false 1 24, [], 0⟩,
    ⟨some 27, none, .mi t_tally_Tally (.k 25), [], 0⟩,
    ⟨some 4, none, .mv (.k 27), [], 0⟩,
    ⟨some 5, none, .mv (.k 26), [], 0⟩] false [4, 5] [])
  .ret)
  (.seq (.reg [] [⟨some 29, none, .bin .eql (.k 6) (.c (.i .i64 4)), [], 0⟩,
    ⟨some 28, none, .mv (.k 29), [], 0⟩] false [1, 28] [])
  (.cond 28 (.seq (.reg [] [⟨some 30, none, .mv (.k 1), [], 0⟩,
    ⟨some 31, none, .call n_net_New [.k 30], [], 0⟩,
    ⟨some 32, none, .ex false 0 31, [], 0⟩,
    ⟨some 33, none, .ex false 1 31, [], 0⟩,
    ⟨some 34, none, .mi t_net_Net (.k 32), [], 0⟩,
    ⟨some 4, none, .mv (.k 34), [], 0⟩,
    ⟨some 5, none, .mv (.k 33), [], 0⟩] false [4, 5] [])
  .ret)
  .skip))))))))))
  (.seq (.reg [] [⟨some 4, none, .mv (.c (.nili)), [], 0⟩,
    ⟨some 5, none, .mv (.c (.i .i64 6)), [], 0⟩] false [4, 5] [])
  .ret)))⟩

def F_container_heap_Init : F := ⟨1, [],
  (.seq (.reg [] [⟨some 4, none, .mv (.t 0), [], 0⟩,
    ⟨some 5, none, .inv "Len" (.k 4) [], [], 0⟩,
    ⟨some 2, none, .mv (.k 5), [], 0⟩] false [0, 2] [])
  (.seq (.reg [] [⟨some 6, none, .mv (.t 2), [], 0⟩,
    ⟨some 7, none, .bin .quo (.k 6) (.c (.i .i64 2)), [], 0⟩,
    ⟨some 8, none, .bin .sub (.k 7) (.c (.i .i64 1)), [], 0⟩,
    ⟨some 3, none, .mv (.k 8), [], 0⟩] false [0, 2, 3] [])
  (.blk 0 (.loop (.seq (.seq (.reg [] [⟨some 9, none, .mv (.t 3), [], 0⟩,
    ⟨some 10, none, .bin .geq (.k 9) (.c (.i .i64 0)), [], 0⟩] false [0, 2, 3, 10] [])
  (.cond 10 .skip
  (.exit 0)))
  (.seq (.blk 1 (.reg [] [⟨some 13, none, .mv (.t 0), [], 0⟩,
    ⟨some 14, none, .mv (.t 3), [], 0⟩,
    ⟨some 15, none, .mv (.t 2), [], 0⟩,
    ⟨some 16, none, .call n_container_heap_down [.k 13, .k 14, .k 15], [], 0⟩] false [0, 2, 3] []))
  (.reg [] [⟨some 11, none, .mv (.k 3), [], 0⟩,
    ⟨some 12, none, .bin .sub (.k 11) (.c (.i .i64 1)), [], 0⟩,
    ⟨some 3, none, .mv (.k 12), [], 0⟩] false [0, 2, 3] [])))))))⟩

def F_pile_Pile_Take : F := ⟨1, [.inr (2, true, 2), .inl 3],
  (.seq (.reg [] [⟨some 2, none, .al ([.f .f64 0, .i .i64 0]), [], 0⟩,
    ⟨some 3, none, .mv (.c (.b false)), [], 0⟩] false [0, 2] [2])
  (.seq (.seq (.reg [] [⟨some 4, none, .mv (.t 0), [], 0⟩,
    ⟨some 5, none, .nc (.k 4), [], 0⟩,
    ⟨some 6, none, .fa 0 (.k 5), [], 0⟩,
    ⟨some 7, none, .lda 1 (.k 6), [], 1⟩,
    ⟨some 8, none, .len false (.k 7), [], 0⟩,
    ⟨some 9, none, .bin .eql (.k 8) (.c (.i .i64 0)), [], 0⟩] false [0, 2, 9] [2])
  (.cond 9 (.seq (.reg [] [⟨some 10, none, .bd ([.f .f64 0, .i .i64 0]) [], [], 0⟩,
    ⟨none, none, .st 2 (.t 2) (.k 10), [], 0⟩,
    ⟨some 3, none, .mv (.c (.b false)), [], 0⟩] false [2, 3] [2])
  .ret)
  .skip))
  (.seq (.reg [] [⟨some 11, none, .mv (.k 0), [], 0⟩,
    ⟨some 12, none, .nc (.k 11), [], 0⟩,
    ⟨some 13, none, .fa 0 (.k 12), [], 0⟩,
    ⟨some 14, none, .mi t_pile_items_u (.k 13), [], 0⟩,
    ⟨some 15, none, .call n_container_heap_Pop [.k 14], [], 0⟩,
    ⟨some 16, none, .ta t_pile_Item (.k 15), [], 0⟩,
    ⟨none, none, .st 2 (.t 2) (.k 16), [], 0⟩,
    ⟨some 3, none, .mv (.c (.b true)), [], 0⟩] false [2, 3] [2])
  .ret)))⟩

def F_op_Of : F := ⟨1, [.inl 2],
  (.seq (.reg [] [⟨some 2, none, .mv (.c (.l .o 1 [])), [], 0⟩] false [0] [])
  (.seq (.seq (.reg [] [⟨some 3, none, .mv (.k 0), [], 0⟩] false [3] [])
  (.blk 0 (.seq (.reg [] [⟨some 5, none, .bin .eql (.t 3) (.c (.i .i64 1)), [], 0⟩,
    ⟨some 4, none, .mv (.k 5), [], 0⟩] false [3, 4] [])
  (.cond 4 (.seq (.reg [] [⟨some 6, none, .bs 1 2 (.i .i64 0) [(0, .c (.i .i64 1)), (1, .c (.i .i64 2))], [], 1⟩,
    ⟨some 2, none, .mv (.k 6), [], 0⟩] false [2] [])
  .ret)
  (.seq (.reg [] [⟨some 8, none, .bin .eql (.t 3) (.c (.i .i64 2)), [], 0⟩,
    ⟨some 7, none, .mv (.k 8), [], 0⟩] false [3, 7] [])
  (.cond 7 (.seq (.reg [] [⟨some 9, none, .bs 1 2 (.i .i64 0) [(0, .c (.i .i64 3)), (1, .c (.i .i64 4))], [], 1⟩,
    ⟨some 2, none, .mv (.k 9), [], 0⟩] false [2] [])
  .ret)
  (.seq (.reg [] [⟨some 11, none, .bin .eql (.t 3) (.c (.i .i64 3)), [], 0⟩,
    ⟨some 10, none, .mv (.k 11), [], 0⟩] false [3, 10] [])
  (.cond 10 (.seq (.reg [] [⟨some 12, none, .bs 1 2 (.i .i64 0) [(0, .c (.i .i64 5)), (1, .c (.i .i64 6))], [], 1⟩,
    ⟨some 2, none, .mv (.k 12), [], 0⟩] false [2] [])
  .ret)
  (.seq (.reg [] [⟨some 14, none, .bin .eql (.k 3) (.c (.i .i64 4)), [], 0⟩,
    ⟨some 13, none, .mv (.k 14), [], 0⟩] false [13] [])
  (.cond 13 (.seq (.reg [] [⟨some 15, none, .bs 1 1 (.i .i64 0) [(0, .c (.i .i64 7))], [], 1⟩,
    ⟨some 2, none, .mv (.k 15), [], 0⟩] false [2] [])
  .ret)
  .skip))))))))))
  (.seq (.reg [] [⟨some 2, none, .mv (.c (.l .o 1 [])), [], 0⟩] false [2] [])
  .ret)))⟩

def F_slices_IndexFunc_pile_Item_pile_Item : F := ⟨2, [.inl 4],
  (.seq (.reg [.zz 0] [⟨some 4, none, .mv (.c (.i .i64 0)), [], 0⟩] false [0, 1] [])
  (.seq (.seq (.reg [] [⟨some 6, none, .mv (.t 0), [], 0⟩,
    ⟨some 7, none, .len false (.k 6), [], 0⟩,
    ⟨some 8, none, .mv (.c (.i .i64 0)), [], 0⟩] false [0, 1, 7, 8] [])
  (.blk 0 (.loop (.seq (.reg [] [⟨some 9, none, .bin .lss (.t 8) (.t 7), [], 0⟩] false [0, 1, 7, 8, 9] [])
  (.seq (.cond 9 .skip
  (.exit 0))
  (.seq (.blk 1 (.seq (.reg [] [⟨some 10, none, .mv (.t 8), [], 0⟩,
    ⟨some 5, none, .mv (.k 10), [], 0⟩] false [0, 1, 5, 7, 8] [])
  (.seq (.reg [] [⟨some 11, none, .mv (.t 1), [], 0⟩,
    ⟨some 12, none, .mv (.t 0), [], 0⟩,
    ⟨some 13, none, .mv (.t 5), [], 0⟩,
    ⟨some 14, none, .ia 2 none (.k 12) (.k 13), [], 0⟩,
    ⟨some 15, none, .ld true 2 .cp (.k 14), [], 0⟩,
    ⟨some 16, none, .callv (.k 11) [.k 15], [], 0⟩] false [0, 1, 5, 7, 8, 16] [])
  (.cond 16 (.seq (.reg [] [⟨some 17, none, .mv (.k 5), [], 0⟩,
    ⟨some 4, none, .mv (.k 17), [], 0⟩] false [4] [])
  .ret)
  .skip))))
  (.reg [] [⟨some 18, none, .bin .add (.k 8) (.c (.i .i64 1)), [], 0⟩,
    ⟨some 8, none, .mv (.k 18), [], 0⟩] false [0, 1, 7, 8] [])))))))
  (.seq (.reg [] [⟨some 4, none, .mv (.c (.i .i64 (-1))), [], 0⟩] false [4] [])
  .ret)))⟩

def F_value_Value_without_1 : F := ⟨2, [.inl 3],
  (.seq (.reg [] [⟨some 2, none, .bx (.k 0), [], 0⟩,
    ⟨some 3, none, .mv (.c (.b false)), [], 0⟩] false [1, 2] [2])
  (.seq (.reg [] [⟨some 4, none, .ld true 2 .cp (.k 1), [], 0⟩,
    ⟨some 5, none, .ld true 2 .cp (.k 2), [], 0⟩,
    ⟨some 6, none, .call n_pile_Item_Cmp [.k 4, .k 5], [], 0⟩,
    ⟨some 7, none, .bin .eql (.k 6) (.c (.i .i64 0)), [], 0⟩,
    ⟨some 3, none, .mv (.k 7), [], 0⟩] false [3] [])
  .ret))⟩

def F_slices_SortFunc_cell_Cell_cell_Cell : F := ⟨2, [],
  (.seq (.reg [.fz 0] [⟨some 5, none, .mv (.t 0), [], 0⟩,
    ⟨some 6, none, .len false (.k 5), [], 0⟩,
    ⟨some 4, none, .mv (.k 6), [], 0⟩] false [0, 1, 4] [])
  (.reg [] [⟨some 7, none, .mv (.k 0), [], 0⟩,
    ⟨some 8, none, .mv (.t 4), [], 0⟩,
    ⟨some 9, none, .mv (.k 4), [], 0⟩,
    ⟨some 10, none, .cv (.int .u64) (.k 9), [], 0⟩,
    ⟨some 11, none, .call n_math_bits_Len [.k 10], [], 0⟩,
    ⟨some 12, none, .mv (.k 1), [], 0⟩,
    ⟨some 13, none, .call n_slices_pdqsortCmpFunc_cell_Cell [.k 7, .c (.i .i64 0), .k 8, .k 11, .k 12], [], 0⟩] false [] []))⟩

def F_value_line_1 : F := ⟨2, [.inl 4],
  (.seq (.reg [.zz 0, .zz 1] [⟨some 2, none, .bx (.k 0), [], 0⟩,
    ⟨some 3, none, .bx (.k 1), [], 0⟩,
    ⟨some 4, none, .mv (.c (.i .i64 0)), [], 0⟩] false [2, 3] [2, 3])
  (.seq (.reg [] [⟨some 5, none, .fa 0 (.k 2), [], 0⟩,
    ⟨some 6, none, .ld false 1 .cp (.k 5), [], 0⟩,
    ⟨some 7, none, .cv (.int .i64) (.k 6), [], 0⟩,
    ⟨some 8, none, .fa 0 (.k 3), [], 0⟩,
    ⟨some 9, none, .ld false 1 .cp (.k 8), [], 0⟩,
    ⟨some 10, none, .cv (.int .i64) (.k 9), [], 0⟩,
    ⟨some 11, none, .bin .sub (.k 7) (.k 10), [], 0⟩,
    ⟨some 4, none, .mv (.k 11), [], 0⟩] false [4] [])
  .ret))⟩

def F_wire_Make : F := ⟨1, [.inr (2, true, 3), .inl 3],
  (.seq (.reg [] [⟨some 2, none, .al ([.i .i64 0, .l .o 2 [], .l .o 1 []]), [], 0⟩,
    ⟨some 3, none, .mv (.c (.i .i64 0)), [], 0⟩] false [0, 2] [2])
  (.seq (.seq (.reg [] [⟨some 8, none, .mv (.t 0), [], 0⟩,
    ⟨some 9, none, .call n_op_Legal [.c (.i .i64 4), .k 8], [], 0⟩,
    ⟨some 4, none, .mv (.k 9), [], 0⟩] false [0, 2, 4] [2])
  (.seq (.reg [] [⟨some 10, none, .mv (.t 4), [], 0⟩,
    ⟨some 11, none, .bin .neq (.k 10) (.c (.i .i64 0)), [], 0⟩] false [0, 2, 4, 11] [2])
  (.cond 11 (.seq (.reg [] [⟨some 12, none, .bd ([.i .i64 0, .l .o 2 [], .l .o 1 []]) [], [], 0⟩,
    ⟨some 13, none, .mv (.k 4), [], 0⟩,
    ⟨none, none, .st 3 (.t 2) (.k 12), [], 0⟩,
    ⟨some 3, none, .mv (.k 13), [], 0⟩] false [2, 3] [2])
  .ret)
  .skip)))
  (.seq (.reg [] [⟨some 14, none, .mv (.t 0), [], 0⟩,
    ⟨some 15, none, .bd ([.i .i64 0, .l .o 2 [], .l .o 1 []]) [(0, 1, .k 14)], [], 0⟩,
    ⟨some 5, none, .ag ([.i .i64 0, .l .o 2 [], .l .o 1 []]), [], 0⟩,
    ⟨none, none, .st 3 (.t 5) (.k 15), [], 0⟩] false [0, 2, 5] [2])
  (.seq (.reg [] [⟨some 16, none, .mv (.k 0), [], 0⟩,
    ⟨some 17, none, .ms 1 8 (.i .i64 0) (.t 16) (.t 16), [], 0⟩,
    ⟨some 6, none, .mv (.k 17), [], 0⟩] false [2, 5, 6] [2, 6])
  (.seq (.seq (.reg [.thaw 6] [⟨some 18, none, .mv (.t 6), [], 0⟩,
    ⟨some 19, none, .len false (.k 18), [], 0⟩,
    ⟨some 20, none, .mv (.c (.i .i64 0)), [], 0⟩] false [2, 5, 6, 19, 20] [2, 6])
  (.blk 0 (.loop (.seq (.reg [] [⟨some 21, none, .bin .lss (.t 20) (.t 19), [], 0⟩] false [2, 5, 6, 19, 20, 21] [2, 6])
  (.seq (.cond 21 .skip
  (.exit 0))
  (.seq (.blk 1 (.seq (.reg [] [⟨some 22, none, .mv (.t 20), [], 0⟩,
    ⟨some 7, none, .mv (.k 22), [], 0⟩] false [2, 5, 6, 7, 19, 20] [2, 6])
  (.reg [.thaw 6] [⟨some 23, none, .mv (.t 6), [], 0⟩,
    ⟨some 24, none, .mv (.t 7), [], 0⟩,
    ⟨some 25, none, .mv (.k 7), [], 0⟩,
    ⟨some 26, none, .ia 1 none (.k 23) (.k 24), [], 0⟩,
    ⟨none, none, .st 1 (.k 26) (.k 25), [], 0⟩] false [2, 5, 6, 19, 20] [2, 6])))
  (.reg [] [⟨some 27, none, .bin .add (.k 20) (.c (.i .i64 1)), [], 0⟩,
    ⟨some 20, none, .mv (.k 27), [], 0⟩] false [2, 5, 6, 19, 20] [2, 6])))))))
  (.seq (.reg [.unth 6] [⟨some 28, none, .mv (.k 6), [], 2⟩,
    ⟨some 29, none, .call n_wire_Plan_count [.t 5, .k 28], [], 0⟩,
    ⟨some 30, none, .fa 2 (.t 5), [], 0⟩,
    ⟨none, none, .st 1 (.k 30) (.k 29), [], 0⟩] false [2, 5] [2])
  (.seq (.reg [] [⟨some 31, none, .ld true 3 .cp (.k 5), [], 0⟩,
    ⟨none, none, .st 3 (.t 2) (.k 31), [], 0⟩,
    ⟨some 3, none, .mv (.c (.i .i64 0)), [], 0⟩] false [2, 3] [2])
  .ret)))))))⟩

def F_c_ref03_Cmp : F := ⟨2, [.inl 4],
  (.seq (.reg [] [⟨some 4, none, .mv (.c (.i .i64 0)), [], 0⟩] false [0, 1] [])
  (.seq (.seq (.reg [] [⟨some 5, none, .mv (.t 0), [], 0⟩,
    ⟨some 6, none, .call n_c_ref03_Key [.k 5], [], 0⟩,
    ⟨some 7, none, .mv (.t 1), [], 0⟩,
    ⟨some 8, none, .call n_c_ref03_Key [.k 7], [], 0⟩,
    ⟨some 9, none, .bin .lss (.k 6) (.k 8), [], 0⟩] false [0, 1, 9] [])
  (.cond 9 (.seq (.reg [] [⟨some 4, none, .mv (.c (.i .i64 (-1))), [], 0⟩] false [4] [])
  .ret)
  .skip))
  (.seq (.seq (.reg [] [⟨some 10, none, .mv (.k 0), [], 0⟩,
    ⟨some 11, none, .call n_c_ref03_Key [.k 10], [], 0⟩,
    ⟨some 12, none, .mv (.k 1), [], 0⟩,
    ⟨some 13, none, .call n_c_ref03_Key [.k 12], [], 0⟩,
    ⟨some 14, none, .bin .gtr (.k 11) (.k 13), [], 0⟩] false [14] [])
  (.cond 14 (.seq (.reg [] [⟨some 4, none, .mv (.c (.i .i64 1)), [], 0⟩] false [4] [])
  .ret)
  .skip))
  (.seq (.reg [] [⟨some 4, none, .mv (.c (.i .i64 0)), [], 0⟩] false [4] [])
  .ret))))⟩

def F_c_ref10_pick : F := ⟨2, [.inl 4],
  (.seq (.reg [.zz 0] [⟨some 4, none, .mv (.c (.l .o 1 [])), [], 0⟩] false [0, 1] [])
  (.seq (.reg [] [⟨some 7, none, .bs 1 0 (.i .i64 0) [], [], 1⟩,
    ⟨some 5, none, .mv (.k 7), [], 0⟩] false [0, 1, 5] [])
  (.seq (.seq (.reg [] [⟨some 8, none, .mv (.t 0), [], 0⟩,
    ⟨some 9, none, .len false (.k 8), [], 0⟩,
    ⟨some 10, none, .mv (.c (.i .i64 0)), [], 0⟩] false [0, 1, 5, 9, 10] [])
  (.blk 0 (.loop (.seq (.reg [] [⟨some 11, none, .bin .lss (.t 10) (.t 9), [], 0⟩] false [0, 1, 5, 9, 10, 11] [])
  (.seq (.cond 11 .skip
  (.exit 0))
  (.seq (.blk 1 (.seq (.reg [] [⟨some 12, none, .mv (.t 10), [], 0⟩,
    ⟨some 6, none, .mv (.k 12), [], 0⟩] false [0, 1, 5, 6, 9, 10] [])
  (.seq (.reg [] [⟨some 13, none, .mv (.t 6), [], 0⟩,
    ⟨some 14, none, .bin .rem (.k 13) (.c (.i .i64 2)), [], 0⟩,
    ⟨some 15, none, .mv (.t 1), [], 0⟩,
    ⟨some 16, none, .bin .eql (.k 14) (.k 15), [], 0⟩] false [0, 1, 5, 6, 9, 10, 16] [])
  (.cond 16 (.reg [] [⟨some 17, none, .mv (.k 5), [], 0⟩,
    ⟨some 18, none, .mv (.t 0), [], 0⟩,
    ⟨some 19, none, .mv (.k 6), [], 0⟩,
    ⟨some 20, none, .ia 1 none (.k 18) (.k 19), [], 0⟩,
    ⟨some 21, none, .ld false 1 .cp (.k 20), [], 0⟩,
    ⟨some 22, none, .bs 1 1 (.i .i64 0) [(0, .k 21)], [], 0⟩,
    ⟨some 23, none, .app 1 8 (.k 17) (.k 22), [], 1⟩,
    ⟨some 5, none, .mv (.k 23), [], 0⟩] false [0, 1, 5, 9, 10] [])
  .skip))))
  (.reg [] [⟨some 24, none, .bin .add (.k 10) (.c (.i .i64 1)), [], 0⟩,
    ⟨some 10, none, .mv (.k 24), [], 0⟩] false [0, 1, 5, 9, 10] [])))))))
  (.seq (.reg [] [⟨some 25, none, .mv (.k 5), [], 0⟩,
    ⟨some 4, none, .mv (.k 25), [], 0⟩] false [4] [])
  .ret))))⟩

def F_multi_New : F := ⟨1, [.inr (2, true, 1), .inl 3],
  (.seq (.reg [] [⟨some 2, none, .al ([.i .i64 0]), [], 0⟩,
    ⟨some 3, none, .mv (.c (.i .i64 0)), [], 0⟩] false [0, 2] [2])
  (.seq (.seq (.reg [] [⟨some 5, none, .mv (.t 0), [], 0⟩,
    ⟨some 6, none, .call n_op_Legal [.c (.i .i64 1), .k 5], [], 0⟩,
    ⟨some 4, none, .mv (.k 6), [], 0⟩] false [0, 2, 4] [2])
  (.seq (.reg [] [⟨some 7, none, .mv (.t 4), [], 0⟩,
    ⟨some 8, none, .bin .neq (.k 7) (.c (.i .i64 0)), [], 0⟩] false [0, 2, 4, 8] [2])
  (.cond 8 (.seq (.reg [] [⟨some 9, none, .bd ([.i .i64 0]) [], [], 0⟩,
    ⟨some 10, none, .mv (.k 4), [], 0⟩,
    ⟨none, none, .st 1 (.t 2) (.k 9), [], 0⟩,
    ⟨some 3, none, .mv (.k 10), [], 0⟩] false [2, 3] [2])
  .ret)
  .skip)))
  (.seq (.reg [] [⟨some 11, none, .mv (.k 0), [], 0⟩,
    ⟨some 12, none, .bd ([.i .i64 0]) [(0, 1, .k 11)], [], 0⟩,
    ⟨none, none, .st 1 (.t 2) (.k 12), [], 0⟩,
    ⟨some 3, none, .mv (.c (.i .i64 0)), [], 0⟩] false [2, 3] [2])
  .ret)))⟩

def F_tally_New : F := ⟨1, [.inr (2, true, 1), .inl 3],
  (.seq (.reg [] [⟨some 2, none, .al ([.i .i64 0]), [], 0⟩,
    ⟨some 3, none, .mv (.c (.i .i64 0)), [], 0⟩] false [0, 2] [2])
  (.seq (.seq (.reg [] [⟨some 5, none, .mv (.t 0), [], 0⟩,
    ⟨some 6, none, .call n_op_Legal [.c (.i .i64 3), .k 5], [], 0⟩,
    ⟨some 4, none, .mv (.k 6), [], 0⟩] false [0, 2, 4] [2])
  (.seq (.reg [] [⟨some 7, none, .mv (.t 4), [], 0⟩,
    ⟨some 8, none, .bin .neq (.k 7) (.c (.i .i64 0)), [], 0⟩] false [0, 2, 4, 8] [2])
  (.cond 8 (.seq (.reg [] [⟨some 9, none, .bd ([.i .i64 0]) [], [], 0⟩,
    ⟨some 10, none, .mv (.k 4), [], 0⟩,
    ⟨none, none, .st 1 (.t 2) (.k 9), [], 0⟩,
    ⟨some 3, none, .mv (.k 10), [], 0⟩] false [2, 3] [2])
  .ret)
  .skip)))
  (.seq (.reg [] [⟨some 11, none, .mv (.k 0), [], 0⟩,
    ⟨some 12, none, .bd ([.i .i64 0]) [(0, 1, .k 11)], [], 0⟩,
    ⟨none, none, .st 1 (.t 2) (.k 12), [], 0⟩,
    ⟨some 3, none, .mv (.c (.i .i64 0)), [], 0⟩] false [2, 3] [2])
  .ret)))⟩

def F_container_heap_down : F := ⟨3, [.inl 6],
  (.seq (.reg [] [⟨some 6, none, .mv (.c (.b false)), [], 0⟩] false [0, 1, 2] [])
  (.seq (.reg [] [⟨some 11, none, .mv (.t 1), [], 0⟩,
    ⟨some 7, none, .mv (.k 11), [], 0⟩] false [0, 1, 2, 7] [])
  (.seq (.blk 0 (.loop (.blk 1 (.seq (.reg [] [⟨some 12, none, .mv (.t 7), [], 0⟩,
    ⟨some 13, none, .bin .mul (.c (.i .i64 2)) (.k 12), [], 0⟩,
    ⟨some 14, none, .bin .add (.k 13) (.c (.i .i64 1)), [], 0⟩,
    ⟨some 8, none, .mv (.k 14), [], 0⟩] false [0, 1, 2, 7, 8] [])
  (.seq (.seq (.reg [] [⟨some 15, none, .mv (.t 8), [], 0⟩,
    ⟨some 16, none, .mv (.t 2), [], 0⟩,
    ⟨some 17, none, .bin .geq (.k 15) (.k 16), [], 0⟩,
    ⟨some 18, none, .mv (.k 17), [], 0⟩,
    ⟨some 19, some (18, false), .mv (.t 8), [], 0⟩,
    ⟨some 20, some (18, false), .bin .lss (.k 19) (.c (.i .i64 0)), [], 0⟩,
    ⟨some 21, none, .pick (.k 18) (.c (.b true)) (.k 20), [], 0⟩] false [0, 1, 2, 7, 8, 21] [])
  (.cond 21 (.exit 0)
  .skip))
  (.seq (.reg [] [⟨some 22, none, .mv (.t 8), [], 0⟩,
    ⟨some 9, none, .mv (.k 22), [], 0⟩] false [0, 1, 2, 7, 8, 9] [])
  (.seq (.seq (.reg [] [⟨some 23, none, .mv (.t 8), [], 0⟩,
    ⟨some 24, none, .bin .add (.k 23) (.c (.i .i64 1)), [], 0⟩,
    ⟨some 10, none, .mv (.k 24), [], 0⟩] false [0, 1, 2, 7, 8, 9, 10] [])
  (.seq (.reg [] [⟨some 25, none, .mv (.t 10), [], 0⟩,
    ⟨some 26, none, .mv (.t 2), [], 0⟩,
    ⟨some 27, none, .bin .lss (.k 25) (.k 26), [], 0⟩,
    ⟨some 28, none, .mv (.k 27), [], 0⟩,
    ⟨some 29, some (28, true), .mv (.t 0), [], 0⟩,
    ⟨some 30, some (28, true), .mv (.t 10), [], 0⟩,
    ⟨some 31, some (28, true), .mv (.k 8), [], 0⟩,
    ⟨some 32, some (28, true), .inv "Less" (.k 29) [.k 30, .k 31], [], 0⟩,
    ⟨some 33, none, .pick (.k 28) (.k 32) (.c (.b false)), [], 0⟩] false [0, 1, 2, 7, 9, 10, 33] [])
  (.cond 33 (.reg [] [⟨some 34, none, .mv (.k 10), [], 0⟩,
    ⟨some 9, none, .mv (.k 34), [], 0⟩] false [0, 1, 2, 7, 9] [])
  .skip)))
  (.seq (.seq (.reg [] [⟨some 35, none, .mv (.t 0), [], 0⟩,
    ⟨some 36, none, .mv (.t 9), [], 0⟩,
    ⟨some 37, none, .mv (.t 7), [], 0⟩,
    ⟨some 38, none, .inv "Less" (.k 35) [.k 36, .k 37], [], 0⟩,
    ⟨some 39, none, .un .not (.k 38), [], 0⟩] false [0, 1, 2, 7, 9, 39] [])
  (.cond 39 (.exit 0)
  .skip))
  (.seq (.reg [] [⟨some 40, none, .mv (.t 0), [], 0⟩,
    ⟨some 41, none, .mv (.k 7), [], 0⟩,
    ⟨some 42, none, .mv (.t 9), [], 0⟩,
    ⟨some 43, none, .inv "Swap" (.k 40) [.k 41, .k 42], [], 0⟩] false [0, 1, 2, 9] [])
  (.reg [] [⟨some 44, none, .mv (.k 9), [], 0⟩,
    ⟨some 7, none, .mv (.k 44), [], 0⟩] false [0, 1, 2, 7] []))))))))))
  (.seq (.reg [] [⟨some 45, none, .mv (.k 7), [], 0⟩,
    ⟨some 46, none, .mv (.k 1), [], 0⟩,
    ⟨some 47, none, .bin .gtr (.k 45) (.k 46), [], 0⟩,
    ⟨some 6, none, .mv (.k 47), [], 0⟩] false [6] [])
  .ret))))⟩

def F_container_heap_Pop : F := ⟨1, [.inl 2],
  (.seq (.reg [] [⟨some 2, none, .mv (.c (.nili)), [], 0⟩] false [0] [])
  (.seq (.reg [] [⟨some 4, none, .mv (.t 0), [], 0⟩,
    ⟨some 5, none, .inv "Len" (.k 4) [], [], 0⟩,
    ⟨some 6, none, .bin .sub (.k 5) (.c (.i .i64 1)), [], 0⟩,
    ⟨some 3, none, .mv (.k 6), [], 0⟩] false [0, 3] [])
  (.seq (.reg [] [⟨some 7, none, .mv (.t 0), [], 0⟩,
    ⟨some 8, none, .mv (.t 3), [], 0⟩,
    ⟨some 9, none, .inv "Swap" (.k 7) [.c (.i .i64 0), .k 8], [], 0⟩] false [0, 3] [])
  (.seq (.reg [] [⟨some 10, none, .mv (.t 0), [], 0⟩,
    ⟨some 11, none, .mv (.k 3), [], 0⟩,
    ⟨some 12, none, .call n_container_heap_down [.k 10, .c (.i .i64 0), .k 11], [], 0⟩] false [0] [])
  (.seq (.reg [] [⟨some 13, none, .mv (.k 0), [], 0⟩,
    ⟨some 14, none, .inv "Pop" (.k 13) [], [], 0⟩,
    ⟨some 2, none, .mv (.k 14), [], 0⟩] false [2] [])
  .ret)))))⟩

def F_slices_pdqsortCmpFunc_cell_Cell : F := ⟨5, [],
  (.seq (.reg [] [⟨some 10, none, .mv (.c (.b true)), [], 0⟩] false [0, 1, 2, 3, 4, 10] [])
  (.seq (.reg [] [⟨some 11, none, .mv (.c (.b true)), [], 0⟩] false [0, 1, 2, 3, 4, 10, 11] [])
  (.blk 0 (.loop (.blk 1 (.seq (.reg [] [⟨some 21, none, .mv (.t 2), [], 0⟩,
    ⟨some 22, none, .mv (.t 1), [], 0⟩,
    ⟨some 23, none, .bin .sub (.k 21) (.k 22), [], 0⟩,
    ⟨some 12, none, .mv (.k 23), [], 0⟩] false [0, 1, 2, 3, 4, 10, 11, 12] [])
  (.seq (.seq (.reg [] [⟨some 24, none, .mv (.t 12), [], 0⟩,
    ⟨some 25, none, .bin .leq (.k 24) (.c (.i .i64 12)), [], 0⟩] false [0, 1, 2, 3, 4, 10, 11, 12, 25] [])
  (.cond 25 (.seq (.reg [] [⟨some 26, none, .mv (.k 0), [], 0⟩,
    ⟨some 27, none, .mv (.k 1), [], 0⟩,
    ⟨some 28, none, .mv (.k 2), [], 0⟩,
    ⟨some 29, none, .mv (.k 4), [], 0⟩,
    ⟨some 30, none, .call n_slices_insertionSortCmpFunc_cell_Cell [.k 26, .k 27, .k 28, .k 29], [], 0⟩] false [] [])
  .ret)
  .skip))
  (.seq (.seq (.reg [] [⟨some 31, none, .mv (.t 3), [], 0⟩,
    ⟨some 32, none, .bin .eql (.k 31) (.c (.i .i64 0)), [], 0⟩] false [0, 1, 2, 3, 4, 10, 11, 12, 32] [])
  (.cond 32 (.seq (.reg [] [⟨some 33, none, .mv (.k 0), [], 0⟩,
    ⟨some 34, none, .mv (.k 1), [], 0⟩,
    ⟨some 35, none, .mv (.k 2), [], 0⟩,
    ⟨some 36, none, .mv (.k 4), [], 0⟩,
    ⟨some 37, none, .call n_slices_heapSortCmpFunc_cell_Cell [.k 33, .k 34, .k 35, .k 36], [], 0⟩] false [] [])
  .ret)
  .skip))
  (.seq (.seq (.reg [] [⟨some 38, none, .mv (.t 10), [], 0⟩,
    ⟨some 39, none, .un .not (.k 38), [], 0⟩] false [0, 1, 2, 3, 4, 10, 11, 12, 39] [])
  (.cond 39 (.seq (.reg [.fz 0] [⟨some 40, none, .mv (.t 0), [], 0⟩,
    ⟨some 41, none, .mv (.t 1), [], 0⟩,
    ⟨some 42, none, .mv (.t 2), [], 0⟩,
    ⟨some 43, none, .mv (.t 4), [], 0⟩,
    ⟨some 44, none, .call n_slices_breakPatternsCmpFunc_cell_Cell [.k 40, .k 41, .k 42, .k 43], [], 0⟩] false [0, 1, 2, 3, 4, 10, 11, 12] [])
  (.reg [] [⟨some 45, none, .mv (.k 3), [], 0⟩,
    ⟨some 46, none, .bin .sub (.k 45) (.c (.i .i64 1)), [], 0⟩,
    ⟨some 3, none, .mv (.k 46), [], 0⟩] false [0, 1, 2, 3, 4, 10, 11, 12] []))
  .skip))
  (.seq (.reg [.fz 0] [⟨some 48, none, .mv (.t 0), [], 2⟩,
    ⟨some 49, none, .mv (.t 1), [], 0⟩,
    ⟨some 50, none, .mv (.t 2), [], 0⟩,
    ⟨some 51, none, .mv (.t 4), [], 0⟩,
    ⟨some 52, none, .call n_slices_choosePivotCmpFunc_cell_Cell [.k 48, .k 49, .k 50, .k 51], [], 0⟩,
    ⟨some 47, none, .mv (.k 52), [], 0⟩,
    ⟨some 53, none, .ex false 0 47, [], 0⟩,
    ⟨some 54, none, .ex false 1 47, [], 0⟩,
    ⟨some 13, none, .mv (.k 53), [], 0⟩,
    ⟨some 14, none, .mv (.k 54), [], 0⟩] false [0, 1, 2, 3, 4, 10, 11, 12, 13, 14] [])
  (.seq (.seq (.reg [] [⟨some 55, none, .mv (.t 14), [], 0⟩,
    ⟨some 56, none, .bin .eql (.k 55) (.c (.i .i64 2)), [], 0⟩] false [0, 1, 2, 3, 4, 10, 11, 12, 13, 14, 56] [])
  (.cond 56 (.seq (.reg [.fz 0] [⟨some 57, none, .mv (.t 0), [], 0⟩,
    ⟨some 58, none, .mv (.t 1), [], 0⟩,
    ⟨some 59, none, .mv (.t 2), [], 0⟩,
    ⟨some 60, none, .mv (.t 4), [], 0⟩,
    ⟨some 61, none, .call n_slices_reverseRangeCmpFunc_cell_Cell [.k 57, .k 58, .k 59, .k 60], [], 0⟩] false [0, 1, 2, 3, 4, 10, 11, 12, 13] [])
  (.seq (.reg [] [⟨some 62, none, .mv (.t 2), [], 0⟩,
    ⟨some 63, none, .bin .sub (.k 62) (.c (.i .i64 1)), [], 0⟩,
    ⟨some 64, none, .mv (.k 13), [], 0⟩,
    ⟨some 65, none, .mv (.t 1), [], 0⟩,
    ⟨some 66, none, .bin .sub (.k 64) (.k 65), [], 0⟩,
    ⟨some 67, none, .bin .sub (.k 63) (.k 66), [], 0⟩,
    ⟨some 13, none, .mv (.k 67), [], 0⟩] false [0, 1, 2, 3, 4, 10, 11, 12, 13] [])
  (.reg [] [⟨some 14, none, .mv (.c (.i .i64 1)), [], 0⟩] false [0, 1, 2, 3, 4, 10, 11, 12, 13, 14] [])))
  .skip))
  (.seq (.seq (.reg [] [⟨some 68, none, .mv (.t 10), [], 0⟩,
    ⟨some 69, none, .mv (.k 68), [], 0⟩,
    ⟨some 70, some (69, true), .mv (.t 11), [], 0⟩,
    ⟨some 71, none, .pick (.k 69) (.k 70) (.c (.b false)), [], 0⟩,
    ⟨some 72, none, .mv (.k 71), [], 0⟩,
    ⟨some 73, some (72, true), .mv (.k 14), [], 0⟩,
    ⟨some 74, some (72, true), .bin .eql (.k 73) (.c (.i .i64 1)), [], 0⟩,
    ⟨some 75, none, .pick (.k 72) (.k 74) (.c (.b false)), [], 0⟩] false [0, 1, 2, 3, 4, 10, 11, 12, 13, 75] [])
  (.cond 75 (.seq (.reg [.fz 0] [⟨some 76, none, .mv (.t 0), [], 0⟩,
    ⟨some 77, none, .mv (.t 1), [], 0⟩,
    ⟨some 78, none, .mv (.t 2), [], 0⟩,
    ⟨some 79, none, .mv (.t 4), [], 0⟩,
    ⟨some 80, none, .call n_slices_partialInsertionSortCmpFunc_cell_Cell [.k 76, .k 77, .k 78, .k 79], [], 0⟩] false [0, 1, 2, 3, 4, 10, 11, 12, 13, 80] [])
  (.cond 80 .ret
  .skip))
  .skip))
  (.seq (.seq (.reg [.fz 0] [⟨some 81, none, .mv (.t 1), [], 0⟩,
    ⟨some 82, none, .bin .gtr (.k 81) (.c (.i .i64 0)), [], 0⟩,
    ⟨some 83, none, .mv (.k 82), [], 0⟩,
    ⟨some 84, some (83, true), .mv (.t 4), [], 0⟩,
    ⟨some 85, some (83, true), .mv (.t 0), [3], 0⟩,
    ⟨some 86, some (83, true), .mv (.t 1), [3, 4], 0⟩,
    ⟨some 87, some (83, true), .bin .sub (.k 86) (.c (.i .i64 1)), [3, 4], 0⟩,
    ⟨some 88, some (83, true), .ia 3 none (.k 85) (.k 87), [3], 0⟩,
    ⟨some 89, some (83, true), .ld true 3 .cp (.k 88), [3], 0⟩,
    ⟨some 90, some (83, true), .mv (.t 0), [3, 4, 5, 6, 7, 8], 0⟩,
    ⟨some 91, some (83, true), .mv (.t 13), [3, 4, 5, 6, 7, 8, 9], 0⟩,
    ⟨some 92, some (83, true), .ia 3 none (.k 90) (.k 91), [3, 4, 5, 6, 7, 8], 0⟩,
    ⟨some 93, some (83, true), .ld true 3 .cp (.k 92), [3, 4, 5, 6, 7, 8], 0⟩,
    ⟨some 94, some (83, true), .callv (.k 84) [.k 89, .k 93], [], 0⟩,
    ⟨some 95, some (83, true), .bin .lss (.k 94) (.c (.i .i64 0)), [], 0⟩,
    ⟨some 96, some (83, true), .un .not (.k 95), [], 0⟩,
    ⟨some 97, none, .pick (.t 83) (.k 96) (.c (.b false)), [], 0⟩] true [0, 1, 2, 3, 4, 10, 11, 12, 13, 97] [])
  (.cond 97 (.seq (.reg [.fz 0] [⟨some 98, none, .mv (.t 0), [], 0⟩,
    ⟨some 99, none, .mv (.k 1), [], 0⟩,
    ⟨some 100, none, .mv (.t 2), [], 0⟩,
    ⟨some 101, none, .mv (.k 13), [], 0⟩,
    ⟨some 102, none, .mv (.t 4), [], 0⟩,
    ⟨some 103, none, .call n_slices_partitionEqualCmpFunc_cell_Cell [.k 98, .k 99, .k 100, .k 101, .k 102], [], 0⟩,
    ⟨some 15, none, .mv (.k 103), [], 0⟩] false [0, 2, 3, 4, 10, 11, 15] [])
  (.seq (.reg [] [⟨some 104, none, .mv (.k 15), [], 0⟩,
    ⟨some 1, none, .mv (.k 104), [], 0⟩] false [0, 1, 2, 3, 4, 10, 11] [])
  (.exit 1)))
  .skip))
  (.seq (.reg [.fz 0] [⟨some 106, none, .mv (.t 0), [], 0⟩,
    ⟨some 107, none, .mv (.t 1), [], 0⟩,
    ⟨some 108, none, .mv (.t 2), [], 0⟩,
    ⟨some 109, none, .mv (.k 13), [], 0⟩,
    ⟨some 110, none, .mv (.t 4), [], 0⟩,
    ⟨some 111, none, .call n_slices_partitionCmpFunc_cell_Cell [.k 106, .k 107, .k 108, .k 109, .k 110], [], 0⟩,
    ⟨some 105, none, .mv (.k 111), [], 0⟩,
    ⟨some 112, none, .ex false 0 105, [], 0⟩,
    ⟨some 113, none, .ex false 1 105, [], 0⟩,
    ⟨some 16, none, .mv (.k 112), [], 0⟩,
    ⟨some 17, none, .mv (.k 113), [], 0⟩] false [0, 1, 2, 3, 4, 12, 16, 17] [])
  (.seq (.reg [] [⟨some 114, none, .mv (.k 17), [], 0⟩,
    ⟨some 11, none, .mv (.k 114), [], 0⟩] false [0, 1, 2, 3, 4, 11, 12, 16] [])
  (.seq (.reg [] [⟨some 115, none, .mv (.t 16), [], 0⟩,
    ⟨some 116, none, .mv (.t 1), [], 0⟩,
    ⟨some 117, none, .bin .sub (.k 115) (.k 116), [], 0⟩,
    ⟨some 118, none, .mv (.t 2), [], 0⟩,
    ⟨some 119, none, .mv (.t 16), [], 0⟩,
    ⟨some 120, none, .bin .sub (.k 118) (.k 119), [], 0⟩,
    ⟨some 18, none, .mv (.k 117), [], 0⟩,
    ⟨some 19, none, .mv (.k 120), [], 0⟩] false [0, 1, 2, 3, 4, 11, 12, 16, 18, 19] [])
  (.seq (.reg [] [⟨some 121, none, .mv (.k 12), [], 0⟩,
    ⟨some 122, none, .bin .quo (.k 121) (.c (.i .i64 8)), [], 0⟩,
    ⟨some 20, none, .mv (.k 122), [], 0⟩] false [0, 1, 2, 3, 4, 11, 16, 18, 19, 20] [])
  (.seq (.reg [] [⟨some 123, none, .mv (.t 18), [], 0⟩,
    ⟨some 124, none, .mv (.t 19), [], 0⟩,
    ⟨some 125, none, .bin .lss (.k 123) (.k 124), [], 0⟩] false [0, 1, 2, 3, 4, 11, 16, 18, 19, 20, 125] [])
  (.cond 125 (.seq (.reg [] [⟨some 126, none, .mv (.k 18), [], 0⟩,
    ⟨some 127, none, .mv (.k 20), [], 0⟩,
    ⟨some 128, none, .bin .geq (.k 126) (.k 127), [], 0⟩,
    ⟨some 10, none, .mv (.k 128), [], 0⟩] false [0, 1, 2, 3, 4, 10, 11, 16] [])
  (.seq (.reg [.fz 0] [⟨some 129, none, .mv (.t 0), [], 0⟩,
    ⟨some 130, none, .mv (.k 1), [], 0⟩,
    ⟨some 131, none, .mv (.t 16), [], 0⟩,
    ⟨some 132, none, .mv (.t 3), [], 0⟩,
    ⟨some 133, none, .mv (.t 4), [], 0⟩,
    ⟨some 134, none, .call n_slices_pdqsortCmpFunc_cell_Cell [.k 129, .k 130, .k 131, .k 132, .k 133], [], 0⟩] false [0, 2, 3, 4, 10, 11, 16] [])
  (.reg [] [⟨some 135, none, .mv (.k 16), [], 0⟩,
    ⟨some 136, none, .bin .add (.k 135) (.c (.i .i64 1)), [], 0⟩,
    ⟨some 1, none, .mv (.k 136), [], 0⟩] false [0, 1, 2, 3, 4, 10, 11] [])))
  (.seq (.reg [] [⟨some 137, none, .mv (.k 19), [], 0⟩,
    ⟨some 138, none, .mv (.k 20), [], 0⟩,
    ⟨some 139, none, .bin .geq (.k 137) (.k 138), [], 0⟩,
    ⟨some 10, none, .mv (.k 139), [], 0⟩] false [0, 1, 2, 3, 4, 10, 11, 16] [])
  (.seq (.reg [.fz 0] [⟨some 140, none, .mv (.t 0), [], 0⟩,
    ⟨some 141, none, .mv (.t 16), [], 0⟩,
    ⟨some 142, none, .bin .add (.k 141) (.c (.i .i64 1)), [], 0⟩,
    ⟨some 143, none, .mv (.k 2), [], 0⟩,
    ⟨some 144, none, .mv (.t 3), [], 0⟩,
    ⟨some 145, none, .mv (.t 4), [], 0⟩,
    ⟨some 146, none, .call n_slices_pdqsortCmpFunc_cell_Cell [.k 140, .k 142, .k 143, .k 144, .k 145], [], 0⟩] false [0, 1, 3, 4, 10, 11, 16] [])
  (.reg [] [⟨some 147, none, .mv (.k 16), [], 0⟩,
    ⟨some 2, none, .mv (.k 147), [], 0⟩] false [0, 1, 2, 3, 4, 10, 11] []))))))))))))))))))))))⟩

def F_wire_Plan_count : F := ⟨2, [.inl 4],
  (.seq (.reg [.zz 1] [⟨some 4, none, .mv (.c (.l .o 1 [])), [], 0⟩] false [0, 1] [])
  (.seq (.reg [] [⟨some 6, none, .mv (.t 1), [], 0⟩,
    ⟨some 7, none, .len false (.k 6), [], 0⟩,
    ⟨some 8, none, .bin .quo (.k 7) (.c (.i .i64 2)), [], 0⟩,
    ⟨some 5, none, .mv (.k 8), [], 0⟩] false [0, 1, 5] [])
  (.seq (.seq (.reg [] [⟨some 9, none, .mv (.t 5), [], 0⟩,
    ⟨some 10, none, .bin .eql (.k 9) (.c (.i .i64 0)), [], 0⟩] false [0, 1, 5, 10] [])
  (.cond 10 (.seq (.reg [] [⟨some 11, none, .mv (.k 1), [], 0⟩,
    ⟨some 4, none, .mv (.k 11), [], 0⟩] false [4] [])
  .ret)
  .skip))
  (.seq (.reg [] [⟨some 12, none, .mv (.t 0), [], 0⟩,
    ⟨some 13, none, .mv (.t 0), [0], 0⟩,
    ⟨some 14, none, .mv (.t 1), [0, 1], 0⟩,
    ⟨some 15, none, .mv (.t 5), [0, 1, 2], 0⟩,
    ⟨some 16, none, .sl 1 (.k 14) none (some (.k 15)) none, [0, 1], 2⟩,
    ⟨some 17, none, .call n_wire_Plan_count [.k 13, .k 16], [0], 2⟩,
    ⟨some 18, none, .mv (.t 0), [0, 1, 2, 3, 4, 5], 0⟩,
    ⟨some 19, none, .mv (.t 1), [0, 1, 2, 3, 4, 5, 6], 0⟩,
    ⟨some 20, none, .mv (.t 5), [0, 1, 2, 3, 4, 5, 6, 7], 0⟩,
    ⟨some 21, none, .sl 1 (.k 19) (some (.k 20)) none none, [0, 1, 2, 3, 4, 5, 6], 2⟩,
    ⟨some 22, none, .call n_wire_Plan_count [.k 18, .k 21], [0], 2⟩,
    ⟨some 23, none, .call n_wire_Plan_merge [.k 12, .k 17, .k 22], [], 0⟩,
    ⟨some 4, none, .mv (.k 23), [], 0⟩] true [4] [])
  .ret))))⟩

def F_c_ref03_Key : F := ⟨1, [.inl 2],
  (.seq (.reg [] [⟨some 2, none, .mv (.c (.i .u64 0)), [], 0⟩] false [0] [])
  (.seq (.reg [] [⟨some 3, none, .mv (.k 0), [], 0⟩,
    ⟨some 4, none, .call n_c_ref03_Bits [.k 3], [], 0⟩,
    ⟨some 0, none, .mv (.k 4), [], 0⟩] false [0] [])
  (.seq (.seq (.reg [] [⟨some 5, none, .mv (.t 0), [], 0⟩,
    ⟨some 6, none, .bin .geq (.k 5) (.c (.i .u64 9223372036854775808)), [], 0⟩] false [0, 6] [])
  (.cond 6 (.seq (.reg [] [⟨some 7, none, .mv (.k 0), [], 0⟩,
    ⟨some 8, none, .bin .sub (.c (.i .u64 18446744073709551615)) (.k 7), [], 0⟩,
    ⟨some 2, none, .mv (.k 8), [], 0⟩] false [2] [])
  .ret)
  .skip))
  (.seq (.reg [] [⟨some 9, none, .mv (.k 0), [], 0⟩,
    ⟨some 10, none, .bin .add (.k 9) (.c (.i .u64 9223372036854775808)), [], 0⟩,
    ⟨some 2, none, .mv (.k 10), [], 0⟩] false [2] [])
  .ret))))⟩

def F_slices_insertionSortCmpFunc_cell_Cell : F := ⟨4, [],
  (.seq (.reg [] [⟨some 10, none, .mv (.t 1), [], 0⟩,
    ⟨some 11, none, .bin .add (.k 10) (.c (.i .i64 1)), [], 0⟩,
    ⟨some 8, none, .mv (.k 11), [], 0⟩] false [0, 1, 2, 3, 8] [0])
  (.blk 0 (.loop (.seq (.seq (.reg [] [⟨some 12, none, .mv (.t 8), [], 0⟩,
    ⟨some 13, none, .mv (.t 2), [], 0⟩,
    ⟨some 14, none, .bin .lss (.k 12) (.k 13), [], 0⟩] false [0, 1, 2, 3, 8, 14] [0])
  (.cond 14 .skip
  (.exit 0)))
  (.seq (.blk 1 (.seq (.reg [] [⟨some 17, none, .mv (.t 8), [], 0⟩,
    ⟨some 9, none, .mv (.k 17), [], 0⟩] false [0, 1, 2, 3, 8, 9] [0])
  (.blk 2 (.loop (.seq (.seq (.reg [.thaw 0] [⟨some 18, none, .mv (.t 9), [], 0⟩,
    ⟨some 19, none, .mv (.t 1), [0], 0⟩,
    ⟨some 20, none, .bin .gtr (.k 18) (.k 19), [], 0⟩,
    ⟨some 21, none, .mv (.k 20), [], 0⟩,
    ⟨some 22, some (21, true), .mv (.t 3), [], 0⟩,
    ⟨some 23, some (21, true), .mv (.t 0), [4], 0⟩,
    ⟨some 24, some (21, true), .mv (.t 9), [4, 5], 0⟩,
    ⟨some 25, some (21, true), .ia 3 none (.k 23) (.k 24), [4], 0⟩,
    ⟨some 26, some (21, true), .ld true 3 .cp (.k 25), [4], 0⟩,
    ⟨some 27, some (21, true), .mv (.t 0), [4, 5, 6, 7, 8], 0⟩,
    ⟨some 28, some (21, true), .mv (.t 9), [4, 5, 6, 7, 8, 9], 0⟩,
    ⟨some 29, some (21, true), .bin .sub (.k 28) (.c (.i .i64 1)), [4, 5, 6, 7, 8, 9], 0⟩,
    ⟨some 30, some (21, true), .ia 3 none (.k 27) (.k 29), [4, 5, 6, 7, 8], 0⟩,
    ⟨some 31, some (21, true), .ld true 3 .cp (.k 30), [4, 5, 6, 7, 8], 0⟩,
    ⟨some 32, some (21, true), .callv (.k 22) [.k 26, .k 31], [], 0⟩,
    ⟨some 33, some (21, true), .bin .lss (.k 32) (.c (.i .i64 0)), [], 0⟩,
    ⟨some 34, none, .pick (.t 21) (.k 33) (.c (.b false)), [], 0⟩] true [0, 1, 2, 3, 8, 9, 34] [0])
  (.cond 34 .skip
  (.exit 2)))
  (.seq (.blk 3 (.reg [.thaw 0] [⟨some 37, none, .mv (.t 0), [], 0⟩,
    ⟨some 38, none, .mv (.t 9), [0], 0⟩,
    ⟨some 39, none, .mv (.t 0), [0, 1], 0⟩,
    ⟨some 40, none, .mv (.t 9), [0, 1, 2], 0⟩,
    ⟨some 41, none, .bin .sub (.k 40) (.c (.i .i64 1)), [0, 1, 2], 0⟩,
    ⟨some 42, none, .mv (.t 0), [0, 1, 2, 3, 4], 0⟩,
    ⟨some 43, none, .mv (.t 9), [0, 1, 2, 3, 4, 5], 0⟩,
    ⟨some 44, none, .bin .sub (.k 43) (.c (.i .i64 1)), [0, 1, 2, 3, 4, 5], 0⟩,
    ⟨some 45, none, .ia 3 none (.k 42) (.k 44), [0, 1, 2, 3, 4], 0⟩,
    ⟨some 46, none, .ld true 3 .cp (.k 45), [0, 1, 2, 3, 4], 0⟩,
    ⟨some 47, none, .mv (.t 0), [0, 1, 2, 3, 4, 5, 6, 7, 8, 9], 0⟩,
    ⟨some 48, none, .mv (.t 9), [0, 1, 2, 3, 4, 5, 6, 7, 8, 9, 10], 0⟩,
    ⟨some 49, none, .ia 3 none (.k 47) (.k 48), [0, 1, 2, 3, 4, 5, 6, 7, 8, 9], 0⟩,
    ⟨some 50, none, .ld true 3 .cp (.k 49), [0, 1, 2, 3, 4, 5, 6, 7, 8, 9], 0⟩,
    ⟨some 51, none, .ia 3 none (.k 37) (.k 38), [2, 3, 4], 0⟩,
    ⟨none, none, .st 3 (.k 51) (.k 46), [2, 3, 4], 0⟩,
    ⟨some 52, none, .ia 3 none (.k 39) (.k 41), [], 0⟩,
    ⟨none, none, .st 3 (.k 52) (.k 50), [], 0⟩] true [0, 1, 2, 3, 8, 9] [0]))
  (.reg [] [⟨some 35, none, .mv (.k 9), [], 0⟩,
    ⟨some 36, none, .bin .sub (.k 35) (.c (.i .i64 1)), [], 0⟩,
    ⟨some 9, none, .mv (.k 36), [], 0⟩] false [0, 1, 2, 3, 8, 9] [0])))))))
  (.reg [] [⟨some 15, none, .mv (.k 8), [], 0⟩,
    ⟨some 16, none, .bin .add (.k 15) (.c (.i .i64 1)), [], 0⟩,
    ⟨some 8, none, .mv (.k 16), [], 0⟩] false [0, 1, 2, 3, 8] [0]))))))⟩

def F_slices_heapSortCmpFunc_cell_Cell : F := ⟨4, [],
  (.seq (.reg [] [⟨some 13, none, .mv (.t 1), [], 0⟩,
    ⟨some 8, none, .mv (.k 13), [], 0⟩] false [0, 1, 2, 3, 8] [0])
  (.seq (.reg [] [⟨some 9, none, .mv (.c (.i .i64 0)), [], 0⟩] false [0, 1, 2, 3, 8, 9] [0])
  (.seq (.reg [] [⟨some 14, none, .mv (.k 2), [], 0⟩,
    ⟨some 15, none, .mv (.k 1), [], 0⟩,
    ⟨some 16, none, .bin .sub (.k 14) (.k 15), [], 0⟩,
    ⟨some 10, none, .mv (.k 16), [], 0⟩] false [0, 3, 8, 9, 10] [0])
  (.seq (.seq (.reg [] [⟨some 17, none, .mv (.t 10), [], 0⟩,
    ⟨some 18, none, .bin .sub (.k 17) (.c (.i .i64 1)), [], 0⟩,
    ⟨some 19, none, .bin .quo (.k 18) (.c (.i .i64 2)), [], 0⟩,
    ⟨some 11, none, .mv (.k 19), [], 0⟩] false [0, 3, 8, 9, 10, 11] [0])
  (.blk 0 (.loop (.seq (.seq (.reg [] [⟨some 20, none, .mv (.t 11), [], 0⟩,
    ⟨some 21, none, .bin .geq (.k 20) (.c (.i .i64 0)), [], 0⟩] false [0, 3, 8, 9, 10, 11, 21] [0])
  (.cond 21 .skip
  (.exit 0)))
  (.seq (.blk 1 (.reg [.unth 0, .fz 0] [⟨some 24, none, .mv (.t 0), [], 0⟩,
    ⟨some 25, none, .mv (.t 11), [], 0⟩,
    ⟨some 26, none, .mv (.t 10), [], 0⟩,
    ⟨some 27, none, .mv (.t 8), [], 0⟩,
    ⟨some 28, none, .mv (.t 3), [], 0⟩,
    ⟨some 29, none, .call n_slices_siftDownCmpFunc_cell_Cell [.k 24, .k 25, .k 26, .k 27, .k 28], [], 0⟩] false [0, 3, 8, 9, 10, 11] [0]))
  (.reg [] [⟨some 22, none, .mv (.k 11), [], 0⟩,
    ⟨some 23, none, .bin .sub (.k 22) (.c (.i .i64 1)), [], 0⟩,
    ⟨some 11, none, .mv (.k 23), [], 0⟩] false [0, 3, 8, 9, 10, 11] [0]))))))
  (.seq (.reg [] [⟨some 30, none, .mv (.k 10), [], 0⟩,
    ⟨some 31, none, .bin .sub (.k 30) (.c (.i .i64 1)), [], 0⟩,
    ⟨some 12, none, .mv (.k 31), [], 0⟩] false [0, 3, 8, 9, 12] [0])
  (.blk 2 (.loop (.seq (.seq (.reg [] [⟨some 32, none, .mv (.t 12), [], 0⟩,
    ⟨some 33, none, .bin .geq (.k 32) (.c (.i .i64 0)), [], 0⟩] false [0, 3, 8, 9, 12, 33] [0])
  (.cond 33 .skip
  (.exit 2)))
  (.seq (.blk 3 (.seq (.reg [.thaw 0] [⟨some 36, none, .mv (.t 0), [], 0⟩,
    ⟨some 37, none, .mv (.t 8), [0], 0⟩,
    ⟨some 38, none, .mv (.t 0), [0, 1], 0⟩,
    ⟨some 39, none, .mv (.t 8), [0, 1, 2], 0⟩,
    ⟨some 40, none, .mv (.t 12), [0, 1, 2, 3], 0⟩,
    ⟨some 41, none, .bin .add (.k 39) (.k 40), [0, 1, 2], 0⟩,
    ⟨some 42, none, .mv (.t 0), [0, 1, 2, 3, 4, 5], 0⟩,
    ⟨some 43, none, .mv (.t 8), [0, 1, 2, 3, 4, 5, 6], 0⟩,
    ⟨some 44, none, .mv (.t 12), [0, 1, 2, 3, 4, 5, 6, 7], 0⟩,
    ⟨some 45, none, .bin .add (.k 43) (.k 44), [0, 1, 2, 3, 4, 5, 6], 0⟩,
    ⟨some 46, none, .ia 3 none (.k 42) (.k 45), [0, 1, 2, 3, 4, 5], 0⟩,
    ⟨some 47, none, .ld true 3 .cp (.k 46), [0, 1, 2, 3, 4, 5], 0⟩,
    ⟨some 48, none, .mv (.t 0), [0, 1, 2, 3, 4, 5, 6, 7, 8, 9, 10, 11], 0⟩,
    ⟨some 49, none, .mv (.t 8), [0, 1, 2, 3, 4, 5, 6, 7, 8, 9, 10, 11, 12], 0⟩,
    ⟨some 50, none, .ia 3 none (.k 48) (.k 49), [0, 1, 2, 3, 4, 5, 6, 7, 8, 9, 10, 11], 0⟩,
    ⟨some 51, none, .ld true 3 .cp (.k 50), [0, 1, 2, 3, 4, 5, 6, 7, 8, 9, 10, 11], 0⟩,
    ⟨some 52, none, .ia 3 none (.k 36) (.k 37), [2, 3, 4, 5], 0⟩,
    ⟨none, none, .st 3 (.k 52) (.k 47), [2, 3, 4, 5], 0⟩,
    ⟨some 53, none, .ia 3 none (.k 38) (.k 41), [], 0⟩,
    ⟨none, none, .st 3 (.k 53) (.k 51), [], 0⟩] true [0, 3, 8, 9, 12] [0])
  (.reg [.unth 0, .fz 0] [⟨some 54, none, .mv (.t 0), [], 0⟩,
    ⟨some 55, none, .mv (.t 9), [], 0⟩,
    ⟨some 56, none, .mv (.t 12), [], 0⟩,
    ⟨some 57, none, .mv (.t 8), [], 0⟩,
    ⟨some 58, none, .mv (.t 3), [], 0⟩,
    ⟨some 59, none, .call n_slices_siftDownCmpFunc_cell_Cell [.k 54, .k 55, .k 56, .k 57, .k 58], [], 0⟩] false [0, 3, 8, 9, 12] [0])))
  (.reg [] [⟨some 34, none, .mv (.k 12), [], 0⟩,
    ⟨some 35, none, .bin .sub (.k 34) (.c (.i .i64 1)), [], 0⟩,
    ⟨some 12, none, .mv (.k 35), [], 0⟩] false [0, 3, 8, 9, 12] [0]))))))))))⟩

def F_slices_breakPatternsCmpFunc_cell_Cell : F := ⟨4, [],
  (.seq (.reg [] [⟨some 13, none, .mv (.k 2), [], 0⟩,
    ⟨some 14, none, .mv (.t 1), [], 0⟩,
    ⟨some 15, none, .bin .sub (.k 13) (.k 14), [], 0⟩,
    ⟨some 8, none, .mv (.k 15), [], 0⟩] false [0, 1, 8] [0])
  (.seq (.reg [] [⟨some 16, none, .mv (.t 8), [], 0⟩,
    ⟨some 17, none, .bin .geq (.k 16) (.c (.i .i64 8)), [], 0⟩] false [0, 1, 8, 17] [0])
  (.cond 17 (.seq (.reg [] [⟨some 18, none, .mv (.t 8), [], 0⟩,
    ⟨some 19, none, .cv (.int .u64) (.k 18), [], 0⟩,
    ⟨some 9, none, .ag ([.i .u64 0]), [], 0⟩,
    ⟨none, none, .st 1 (.t 9) (.k 19), [], 0⟩] false [0, 1, 8, 9] [0])
  (.seq (.reg [] [⟨some 20, none, .mv (.t 8), [], 0⟩,
    ⟨some 21, none, .call n_slices_nextPowerOfTwo [.k 20], [], 0⟩,
    ⟨some 10, none, .mv (.k 21), [], 0⟩] false [0, 1, 8, 9, 10] [0])
  (.seq (.reg [] [⟨some 22, none, .mv (.t 1), [], 0⟩,
    ⟨some 23, none, .mv (.t 8), [], 0⟩,
    ⟨some 24, none, .bin .quo (.k 23) (.c (.i .i64 4)), [], 0⟩,
    ⟨some 25, none, .bin .mul (.k 24) (.c (.i .i64 2)), [], 0⟩,
    ⟨some 26, none, .bin .add (.k 22) (.k 25), [], 0⟩,
    ⟨some 27, none, .bin .sub (.k 26) (.c (.i .i64 1)), [], 0⟩,
    ⟨some 11, none, .mv (.k 27), [], 0⟩] false [0, 1, 8, 9, 10, 11] [0])
  (.blk 0 (.loop (.seq (.seq (.reg [] [⟨some 28, none, .mv (.t 11), [], 0⟩,
    ⟨some 29, none, .mv (.t 1), [], 0⟩,
    ⟨some 30, none, .mv (.t 8), [], 0⟩,
    ⟨some 31, none, .bin .quo (.k 30) (.c (.i .i64 4)), [], 0⟩,
    ⟨some 32, none, .bin .mul (.k 31) (.c (.i .i64 2)), [], 0⟩,
    ⟨some 33, none, .bin .add (.k 29) (.k 32), [], 0⟩,
    ⟨some 34, none, .bin .add (.k 33) (.c (.i .i64 1)), [], 0⟩,
    ⟨some 35, none, .bin .leq (.k 28) (.k 34), [], 0⟩] false [0, 1, 8, 9, 10, 11, 35] [0])
  (.cond 35 .skip
  (.exit 0)))
  (.seq (.blk 1 (.seq (.reg [] [⟨some 38, none, .call n_slices_xorshift_Next [.t 9], [], 0⟩,
    ⟨some 39, none, .mv (.t 10), [], 0⟩,
    ⟨some 40, none, .bin .sub (.k 39) (.c (.i .u64 1)), [], 0⟩,
    ⟨some 41, none, .bin .and (.k 38) (.k 40), [], 0⟩,
    ⟨some 42, none, .cv (.int .i64) (.k 41), [], 0⟩,
    ⟨some 12, none, .mv (.k 42), [], 0⟩] false [0, 1, 8, 9, 10, 11, 12] [0])
  (.seq (.seq (.reg [] [⟨some 43, none, .mv (.t 12), [], 0⟩,
    ⟨some 44, none, .mv (.t 8), [], 0⟩,
    ⟨some 45, none, .bin .geq (.k 43) (.k 44), [], 0⟩] false [0, 1, 8, 9, 10, 11, 12, 45] [0])
  (.cond 45 (.reg [] [⟨some 46, none, .mv (.k 12), [], 0⟩,
    ⟨some 47, none, .mv (.t 8), [], 0⟩,
    ⟨some 48, none, .bin .sub (.k 46) (.k 47), [], 0⟩,
    ⟨some 12, none, .mv (.k 48), [], 0⟩] false [0, 1, 8, 9, 10, 11, 12] [0])
  .skip))
  (.reg [.thaw 0] [⟨some 49, none, .mv (.t 0), [], 0⟩,
    ⟨some 50, none, .mv (.t 11), [0], 0⟩,
    ⟨some 51, none, .mv (.t 0), [0, 1], 0⟩,
    ⟨some 52, none, .mv (.t 1), [0, 1, 2], 0⟩,
    ⟨some 53, none, .mv (.t 12), [0, 1, 2, 3], 0⟩,
    ⟨some 54, none, .bin .add (.k 52) (.k 53), [0, 1, 2], 0⟩,
    ⟨some 55, none, .mv (.t 0), [0, 1, 2, 3, 4, 5], 0⟩,
    ⟨some 56, none, .mv (.t 1), [0, 1, 2, 3, 4, 5, 6], 0⟩,
    ⟨some 57, none, .mv (.t 12), [0, 1, 2, 3, 4, 5, 6, 7], 0⟩,
    ⟨some 58, none, .bin .add (.k 56) (.k 57), [0, 1, 2, 3, 4, 5, 6], 0⟩,
    ⟨some 59, none, .ia 3 none (.k 55) (.k 58), [0, 1, 2, 3, 4, 5], 0⟩,
    ⟨some 60, none, .ld true 3 .cp (.k 59), [0, 1, 2, 3, 4, 5], 0⟩,
    ⟨some 61, none, .mv (.t 0), [0, 1, 2, 3, 4, 5, 6, 7, 8, 9, 10, 11], 0⟩,
    ⟨some 62, none, .mv (.t 11), [0, 1, 2, 3, 4, 5, 6, 7, 8, 9, 10, 11, 12], 0⟩,
    ⟨some 63, none, .ia 3 none (.k 61) (.k 62), [0, 1, 2, 3, 4, 5, 6, 7, 8, 9, 10, 11], 0⟩,
    ⟨some 64, none, .ld true 3 .cp (.k 63), [0, 1, 2, 3, 4, 5, 6, 7, 8, 9, 10, 11], 0⟩,
    ⟨some 65, none, .ia 3 none (.k 49) (.k 50), [2, 3, 4, 5], 0⟩,
    ⟨none, none, .st 3 (.k 65) (.k 60), [2, 3, 4, 5], 0⟩,
    ⟨some 66, none, .ia 3 none (.k 51) (.k 54), [], 0⟩,
    ⟨none, none, .st 3 (.k 66) (.k 64), [], 0⟩] true [0, 1, 8, 9, 10, 11] [0]))))
  (.reg [] [⟨some 36, none, .mv (.k 11), [], 0⟩,
    ⟨some 37, none, .bin .add (.k 36) (.c (.i .i64 1)), [], 0⟩,
    ⟨some 11, none, .mv (.k 37), [], 0⟩] false [0, 1, 8, 9, 10, 11] [0]))))))))
  .skip)))⟩

def F_slices_choosePivotCmpFunc_cell_Cell : F := ⟨4, [.inl 8, .inl 9],
  (.seq (.reg [.zz 0] [⟨some 8, none, .mv (.c (.i .i64 0)), [], 0⟩,
    ⟨some 9, none, .mv (.c (.i .i64 0)), [], 0⟩] false [0, 1, 2, 3] [])
  (.seq (.reg [] [⟨some 15, none, .mv (.k 2), [], 0⟩,
    ⟨some 16, none, .mv (.t 1), [], 0⟩,
    ⟨some 17, none, .bin .sub (.k 15) (.k 16), [], 0⟩,
    ⟨some 10, none, .mv (.k 17), [], 0⟩] false [0, 1, 3, 10] [])
  (.seq (.reg [] [⟨some 11, none, .ag ([.i .i64 0]), [], 0⟩] false [0, 1, 3, 10, 11] [])
  (.seq (.reg [] [⟨some 18, none, .mv (.t 1), [], 0⟩,
    ⟨some 19, none, .mv (.t 10), [], 0⟩,
    ⟨some 20, none, .bin .quo (.k 19) (.c (.i .i64 4)), [], 0⟩,
    ⟨some 21, none, .bin .mul (.k 20) (.c (.i .i64 1)), [], 0⟩,
    ⟨some 22, none, .bin .add (.k 18) (.k 21), [], 0⟩,
    ⟨some 12, none, .mv (.k 22), [], 0⟩] false [0, 1, 3, 10, 11, 12] [])
  (.seq (.reg [] [⟨some 23, none, .mv (.t 1), [], 0⟩,
    ⟨some 24, none, .mv (.t 10), [], 0⟩,
    ⟨some 25, none, .bin .quo (.k 24) (.c (.i .i64 4)), [], 0⟩,
    ⟨some 26, none, .bin .mul (.k 25) (.c (.i .i64 2)), [], 0⟩,
    ⟨some 27, none, .bin .add (.k 23) (.k 26), [], 0⟩,
    ⟨some 13, none, .mv (.k 27), [], 0⟩] false [0, 1, 3, 10, 11, 12, 13] [])
  (.seq (.reg [] [⟨some 28, none, .mv (.k 1), [], 0⟩,
    ⟨some 29, none, .mv (.t 10), [], 0⟩,
    ⟨some 30, none, .bin .quo (.k 29) (.c (.i .i64 4)), [], 0⟩,
    ⟨some 31, none, .bin .mul (.k 30) (.c (.i .i64 3)), [], 0⟩,
    ⟨some 32, none, .bin .add (.k 28) (.k 31), [], 0⟩,
    ⟨some 14, none, .mv (.k 32), [], 0⟩] false [0, 3, 10, 11, 12, 13, 14] [])
  (.seq (.seq (.reg [] [⟨some 33, none, .mv (.t 10), [], 0⟩,
    ⟨some 34, none, .bin .geq (.k 33) (.c (.i .i64 8)), [], 0⟩] false [0, 3, 10, 11, 12, 13, 14, 34] [])
  (.cond 34 (.seq (.seq (.reg [] [⟨some 35, none, .mv (.k 10), [], 0⟩,
    ⟨some 36, none, .bin .geq (.k 35) (.c (.i .i64 50)), [], 0⟩] false [0, 3, 11, 12, 13, 14, 36] [])
  (.cond 36 (.seq (.reg [] [⟨some 37, none, .mv (.t 0), [], 2⟩,
    ⟨some 38, none, .mv (.k 12), [], 0⟩,
    ⟨some 39, none, .mv (.t 3), [], 0⟩,
    ⟨some 40, none, .call n_slices_medianAdjacentCmpFunc_cell_Cell [.k 37, .k 38, .t 11, .k 39], [], 0⟩,
    ⟨some 12, none, .mv (.k 40), [], 0⟩] false [0, 3, 11, 12, 13, 14] [])
  (.seq (.reg [] [⟨some 41, none, .mv (.t 0), [], 2⟩,
    ⟨some 42, none, .mv (.k 13), [], 0⟩,
    ⟨some 43, none, .mv (.t 3), [], 0⟩,
    ⟨some 44, none, .call n_slices_medianAdjacentCmpFunc_cell_Cell [.k 41, .k 42, .t 11, .k 43], [], 0⟩,
    ⟨some 13, none, .mv (.k 44), [], 0⟩] false [0, 3, 11, 12, 13, 14] [])
  (.reg [] [⟨some 45, none, .mv (.t 0), [], 2⟩,
    ⟨some 46, none, .mv (.k 14), [], 0⟩,
    ⟨some 47, none, .mv (.t 3), [], 0⟩,
    ⟨some 48, none, .call n_slices_medianAdjacentCmpFunc_cell_Cell [.k 45, .k 46, .t 11, .k 47], [], 0⟩,
    ⟨some 14, none, .mv (.k 48), [], 0⟩] false [0, 3, 11, 12, 13, 14] [])))
  .skip))
  (.reg [] [⟨some 49, none, .mv (.k 0), [], 2⟩,
    ⟨some 50, none, .mv (.k 12), [], 0⟩,
    ⟨some 51, none, .mv (.k 13), [], 0⟩,
    ⟨some 52, none, .mv (.k 14), [], 0⟩,
    ⟨some 53, none, .mv (.k 3), [], 0⟩,
    ⟨some 54, none, .call n_slices_medianCmpFunc_cell_Cell [.k 49, .k 50, .k 51, .k 52, .t 11, .k 53], [], 0⟩,
    ⟨some 13, none, .mv (.k 54), [], 0⟩] false [11, 13] []))
  .skip))
  (.seq (.reg [] [⟨some 55, none, .ld false 1 .cp (.k 11), [], 0⟩] false [13, 55] [])
  (.blk 0 (.seq (.reg [] [⟨some 58, none, .bin .eql (.t 55) (.c (.i .i64 0)), [], 0⟩,
    ⟨some 57, none, .mv (.k 58), [], 0⟩] false [13, 55, 57] [])
  (.cond 57 (.seq (.reg [] [⟨some 59, none, .mv (.k 13), [], 0⟩,
    ⟨some 8, none, .mv (.k 59), [], 0⟩,
    ⟨some 9, none, .mv (.c (.i .i64 1)), [], 0⟩] false [8, 9] [])
  .ret)
  (.seq (.reg [] [⟨some 61, none, .bin .eql (.k 55) (.c (.i .i64 12)), [], 0⟩,
    ⟨some 60, none, .mv (.k 61), [], 0⟩] false [13, 60] [])
  (.cond 60 (.seq (.reg [] [⟨some 62, none, .mv (.k 13), [], 0⟩,
    ⟨some 8, none, .mv (.k 62), [], 0⟩,
    ⟨some 9, none, .mv (.c (.i .i64 2)), [], 0⟩] false [8, 9] [])
  .ret)
  (.seq (.reg [] [⟨some 56, none, .mv (.k 13), [], 0⟩,
    ⟨some 8, none, .mv (.k 56), [], 0⟩,
    ⟨some 9, none, .mv (.c (.i .i64 0)), [], 0⟩] false [8, 9] [])
  .ret))))))))))))))⟩

def F_slices_reverseRangeCmpFunc_cell_Cell : F := ⟨4, [],
  (.seq (.reg [] [⟨some 10, none, .mv (.k 1), [], 0⟩,
    ⟨some 8, none, .mv (.k 10), [], 0⟩] false [0, 2, 8] [0])
  (.seq (.reg [] [⟨some 11, none, .mv (.k 2), [], 0⟩,
    ⟨some 12, none, .bin .sub (.k 11) (.c (.i .i64 1)), [], 0⟩,
    ⟨some 9, none, .mv (.k 12), [], 0⟩] false [0, 8, 9] [0])
  (.blk 0 (.loop (.seq (.seq (.reg [] [⟨some 13, none, .mv (.t 8), [], 0⟩,
    ⟨some 14, none, .mv (.t 9), [], 0⟩,
    ⟨some 15, none, .bin .lss (.k 13) (.k 14), [], 0⟩] false [0, 8, 9, 15] [0])
  (.cond 15 .skip
  (.exit 0)))
  (.blk 1 (.seq (.reg [.thaw 0] [⟨some 16, none, .mv (.t 0), [], 0⟩,
    ⟨some 17, none, .mv (.t 8), [0], 0⟩,
    ⟨some 18, none, .mv (.t 0), [0, 1], 0⟩,
    ⟨some 19, none, .mv (.t 9), [0, 1, 2], 0⟩,
    ⟨some 20, none, .mv (.t 0), [0, 1, 2, 3], 0⟩,
    ⟨some 21, none, .mv (.t 9), [0, 1, 2, 3, 4], 0⟩,
    ⟨some 22, none, .ia 3 none (.k 20) (.k 21), [0, 1, 2, 3], 0⟩,
    ⟨some 23, none, .ld true 3 .cp (.k 22), [0, 1, 2, 3], 0⟩,
    ⟨some 24, none, .mv (.t 0), [0, 1, 2, 3, 4, 5, 6, 7], 0⟩,
    ⟨some 25, none, .mv (.t 8), [0, 1, 2, 3, 4, 5, 6, 7, 8], 0⟩,
    ⟨some 26, none, .ia 3 none (.k 24) (.k 25), [0, 1, 2, 3, 4, 5, 6, 7], 0⟩,
    ⟨some 27, none, .ld true 3 .cp (.k 26), [0, 1, 2, 3, 4, 5, 6, 7], 0⟩,
    ⟨some 28, none, .ia 3 none (.k 16) (.k 17), [2, 3], 0⟩,
    ⟨none, none, .st 3 (.k 28) (.k 23), [2, 3], 0⟩,
    ⟨some 29, none, .ia 3 none (.k 18) (.k 19), [], 0⟩,
    ⟨none, none, .st 3 (.k 29) (.k 27), [], 0⟩] true [0, 8, 9] [0])
  (.seq (.reg [] [⟨some 30, none, .mv (.k 8), [], 0⟩,
    ⟨some 31, none, .bin .add (.k 30) (.c (.i .i64 1)), [], 0⟩,
    ⟨some 8, none, .mv (.k 31), [], 0⟩] false [0, 8, 9] [0])
  (.reg [] [⟨some 32, none, .mv (.k 9), [], 0⟩,
    ⟨some 33, none, .bin .sub (.k 32) (.c (.i .i64 1)), [], 0⟩,
    ⟨some 9, none, .mv (.k 33), [], 0⟩] false [0, 8, 9] [0])))))))))⟩

def F_slices_partialInsertionSortCmpFunc_cell_Cell : F := ⟨4, [.inl 8],
  (.seq (.reg [] [⟨some 8, none, .mv (.c (.b false)), [], 0⟩] false [0, 1, 2, 3] [0])
  (.seq (.reg [] [⟨some 13, none, .mv (.t 1), [], 0⟩,
    ⟨some 14, none, .bin .add (.k 13) (.c (.i .i64 1)), [], 0⟩,
    ⟨some 9, none, .mv (.k 14), [], 0⟩] false [0, 1, 2, 3, 9] [0])
  (.seq (.seq (.reg [] [⟨some 10, none, .mv (.c (.i .i64 0)), [], 0⟩] false [0, 1, 2, 3, 9, 10] [0])
  (.blk 0 (.loop (.seq (.seq (.reg [] [⟨some 15, none, .mv (.t 10), [], 0⟩,
    ⟨some 16, none, .bin .lss (.k 15) (.c (.i .i64 5)), [], 0⟩] false [0, 1, 2, 3, 9, 10, 16] [0])
  (.cond 16 .skip
  (.exit 0)))
  (.seq (.blk 1 (.seq (.blk 2 (.loop (.seq (.seq (.reg [.thaw 0] [⟨some 19, none, .mv (.t 9), [], 0⟩,
    ⟨some 20, none, .mv (.t 2), [0], 0⟩,
    ⟨some 21, none, .bin .lss (.k 19) (.k 20), [], 0⟩,
    ⟨some 22, none, .mv (.k 21), [], 0⟩,
    ⟨some 23, some (22, true), .mv (.t 3), [], 0⟩,
    ⟨some 24, some (22, true), .mv (.t 0), [4], 0⟩,
    ⟨some 25, some (22, true), .mv (.t 9), [4, 5], 0⟩,
    ⟨some 26, some (22, true), .ia 3 none (.k 24) (.k 25), [4], 0⟩,
    ⟨some 27, some (22, true), .ld true 3 .cp (.k 26), [4], 0⟩,
    ⟨some 28, some (22, true), .mv (.t 0), [4, 5, 6, 7, 8], 0⟩,
    ⟨some 29, some (22, true), .mv (.t 9), [4, 5, 6, 7, 8, 9], 0⟩,
    ⟨some 30, some (22, true), .bin .sub (.k 29) (.c (.i .i64 1)), [4, 5, 6, 7, 8, 9], 0⟩,
    ⟨some 31, some (22, true), .ia 3 none (.k 28) (.k 30), [4, 5, 6, 7, 8], 0⟩,
    ⟨some 32, some (22, true), .ld true 3 .cp (.k 31), [4, 5, 6, 7, 8], 0⟩,
    ⟨some 33, some (22, true), .callv (.k 23) [.k 27, .k 32], [], 0⟩,
    ⟨some 34, some (22, true), .bin .lss (.k 33) (.c (.i .i64 0)), [], 0⟩,
    ⟨some 35, some (22, true), .un .not (.k 34), [], 0⟩,
    ⟨some 36, none, .pick (.t 22) (.k 35) (.c (.b false)), [], 0⟩] true [0, 1, 2, 3, 9, 10, 36] [0])
  (.cond 36 .skip
  (.exit 2)))
  (.blk 3 (.reg [] [⟨some 37, none, .mv (.k 9), [], 0⟩,
    ⟨some 38, none, .bin .add (.k 37) (.c (.i .i64 1)), [], 0⟩,
    ⟨some 9, none, .mv (.k 38), [], 0⟩] false [0, 1, 2, 3, 9, 10] [0])))))
  (.seq (.seq (.reg [] [⟨some 39, none, .mv (.t 9), [], 0⟩,
    ⟨some 40, none, .mv (.t 2), [], 0⟩,
    ⟨some 41, none, .bin .eql (.k 39) (.k 40), [], 0⟩] false [0, 1, 2, 3, 9, 10, 41] [0])
  (.cond 41 (.seq (.reg [] [⟨some 8, none, .mv (.c (.b true)), [], 0⟩] false [8] [])
  .ret)
  .skip))
  (.seq (.seq (.reg [] [⟨some 42, none, .mv (.t 2), [], 0⟩,
    ⟨some 43, none, .mv (.t 1), [], 0⟩,
    ⟨some 44, none, .bin .sub (.k 42) (.k 43), [], 0⟩,
    ⟨some 45, none, .bin .lss (.k 44) (.c (.i .i64 50)), [], 0⟩] false [0, 1, 2, 3, 9, 10, 45] [0])
  (.cond 45 (.seq (.reg [] [⟨some 8, none, .mv (.c (.b false)), [], 0⟩] false [8] [])
  .ret)
  .skip))
  (.seq (.reg [.thaw 0] [⟨some 46, none, .mv (.t 0), [], 0⟩,
    ⟨some 47, none, .mv (.t 9), [0], 0⟩,
    ⟨some 48, none, .mv (.t 0), [0, 1], 0⟩,
    ⟨some 49, none, .mv (.t 9), [0, 1, 2], 0⟩,
    ⟨some 50, none, .bin .sub (.k 49) (.c (.i .i64 1)), [0, 1, 2], 0⟩,
    ⟨some 51, none, .mv (.t 0), [0, 1, 2, 3, 4], 0⟩,
    ⟨some 52, none, .mv (.t 9), [0, 1, 2, 3, 4, 5], 0⟩,
    ⟨some 53, none, .bin .sub (.k 52) (.c (.i .i64 1)), [0, 1, 2, 3, 4, 5], 0⟩,
    ⟨some 54, none, .ia 3 none (.k 51) (.k 53), [0, 1, 2, 3, 4], 0⟩,
    ⟨some 55, none, .ld true 3 .cp (.k 54), [0, 1, 2, 3, 4], 0⟩,
    ⟨some 56, none, .mv (.t 0), [0, 1, 2, 3, 4, 5, 6, 7, 8, 9], 0⟩,
    ⟨some 57, none, .mv (.t 9), [0, 1, 2, 3, 4, 5, 6, 7, 8, 9, 10], 0⟩,
    ⟨some 58, none, .ia 3 none (.k 56) (.k 57), [0, 1, 2, 3, 4, 5, 6, 7, 8, 9], 0⟩,
    ⟨some 59, none, .ld true 3 .cp (.k 58), [0, 1, 2, 3, 4, 5, 6, 7, 8, 9], 0⟩,
    ⟨some 60, none, .ia 3 none (.k 46) (.k 47), [2, 3, 4], 0⟩,
    ⟨none, none, .st 3 (.k 60) (.k 55), [2, 3, 4], 0⟩,
    ⟨some 61, none, .ia 3 none (.k 48) (.k 50), [], 0⟩,
    ⟨none, none, .st 3 (.k 61) (.k 59), [], 0⟩] true [0, 1, 2, 3, 9, 10] [0])
  (.seq (.seq (.reg [] [⟨some 62, none, .mv (.t 9), [], 0⟩,
    ⟨some 63, none, .mv (.t 1), [], 0⟩,
    ⟨some 64, none, .bin .sub (.k 62) (.k 63), [], 0⟩,
    ⟨some 65, none, .bin .geq (.k 64) (.c (.i .i64 2)), [], 0⟩] false [0, 1, 2, 3, 9, 10, 65] [0])
  (.cond 65 (.seq (.reg [] [⟨some 66, none, .mv (.t 9), [], 0⟩,
    ⟨some 67, none, .bin .sub (.k 66) (.c (.i .i64 1)), [], 0⟩,
    ⟨some 11, none, .mv (.k 67), [], 0⟩] false [0, 1, 2, 3, 9, 10, 11] [0])
  (.blk 4 (.loop (.seq (.seq (.reg [] [⟨some 68, none, .mv (.t 11), [], 0⟩,
    ⟨some 69, none, .bin .geq (.k 68) (.c (.i .i64 1)), [], 0⟩] false [0, 1, 2, 3, 9, 10, 11, 69] [0])
  (.cond 69 .skip
  (.exit 4)))
  (.seq (.blk 5 (.seq (.seq (.reg [.thaw 0] [⟨some 72, none, .mv (.t 3), [], 0⟩,
    ⟨some 73, none, .mv (.t 0), [0], 0⟩,
    ⟨some 74, none, .mv (.t 11), [0, 1], 0⟩,
    ⟨some 75, none, .ia 3 none (.k 73) (.k 74), [0], 0⟩,
    ⟨some 76, none, .ld true 3 .cp (.k 75), [0], 0⟩,
    ⟨some 77, none, .mv (.t 0), [0, 1, 2, 3, 4], 0⟩,
    ⟨some 78, none, .mv (.t 11), [0, 1, 2, 3, 4, 5], 0⟩,
    ⟨some 79, none, .bin .sub (.k 78) (.c (.i .i64 1)), [0, 1, 2, 3, 4, 5], 0⟩,
    ⟨some 80, none, .ia 3 none (.k 77) (.k 79), [0, 1, 2, 3, 4], 0⟩,
    ⟨some 81, none, .ld true 3 .cp (.k 80), [0, 1, 2, 3, 4], 0⟩,
    ⟨some 82, none, .callv (.k 72) [.k 76, .k 81], [], 0⟩,
    ⟨some 83, none, .bin .lss (.k 82) (.c (.i .i64 0)), [], 0⟩,
    ⟨some 84, none, .un .not (.k 83), [], 0⟩] true [0, 1, 2, 3, 9, 10, 11, 84] [0])
  (.cond 84 (.exit 4)
  .skip))
  (.reg [.thaw 0] [⟨some 85, none, .mv (.t 0), [], 0⟩,
    ⟨some 86, none, .mv (.t 11), [0], 0⟩,
    ⟨some 87, none, .mv (.t 0), [0, 1], 0⟩,
    ⟨some 88, none, .mv (.t 11), [0, 1, 2], 0⟩,
    ⟨some 89, none, .bin .sub (.k 88) (.c (.i .i64 1)), [0, 1, 2], 0⟩,
    ⟨some 90, none, .mv (.t 0), [0, 1, 2, 3, 4], 0⟩,
    ⟨some 91, none, .mv (.t 11), [0, 1, 2, 3, 4, 5], 0⟩,
    ⟨some 92, none, .bin .sub (.k 91) (.c (.i .i64 1)), [0, 1, 2, 3, 4, 5], 0⟩,
    ⟨some 93, none, .ia 3 none (.k 90) (.k 92), [0, 1, 2, 3, 4], 0⟩,
    ⟨some 94, none, .ld true 3 .cp (.k 93), [0, 1, 2, 3, 4], 0⟩,
    ⟨some 95, none, .mv (.t 0), [0, 1, 2, 3, 4, 5, 6, 7, 8, 9], 0⟩,
    ⟨some 96, none, .mv (.t 11), [0, 1, 2, 3, 4, 5, 6, 7, 8, 9, 10], 0⟩,
    ⟨some 97, none, .ia 3 none (.k 95) (.k 96), [0, 1, 2, 3, 4, 5, 6, 7, 8, 9], 0⟩,
    ⟨some 98, none, .ld true 3 .cp (.k 97), [0, 1, 2, 3, 4, 5, 6, 7, 8, 9], 0⟩,
    ⟨some 99, none, .ia 3 none (.k 85) (.k 86), [2, 3, 4], 0⟩,
    ⟨none, none, .st 3 (.k 99) (.k 94), [2, 3, 4], 0⟩,
    ⟨some 100, none, .ia 3 none (.k 87) (.k 89), [], 0⟩,
    ⟨none, none, .st 3 (.k 100) (.k 98), [], 0⟩] true [0, 1, 2, 3, 9, 10, 11] [0])))
  (.reg [] [⟨some 70, none, .mv (.k 11), [], 0⟩,
    ⟨some 71, none, .bin .sub (.k 70) (.c (.i .i64 1)), [], 0⟩,
    ⟨some 11, none, .mv (.k 71), [], 0⟩] false [0, 1, 2, 3, 9, 10, 11] [0]))))))
  .skip))
  (.seq (.reg [] [⟨some 101, none, .mv (.t 2), [], 0⟩,
    ⟨some 102, none, .mv (.t 9), [], 0⟩,
    ⟨some 103, none, .bin .sub (.k 101) (.k 102), [], 0⟩,
    ⟨some 104, none, .bin .geq (.k 103) (.c (.i .i64 2)), [], 0⟩] false [0, 1, 2, 3, 9, 10, 104] [0])
  (.cond 104 (.seq (.reg [] [⟨some 105, none, .mv (.t 9), [], 0⟩,
    ⟨some 106, none, .bin .add (.k 105) (.c (.i .i64 1)), [], 0⟩,
    ⟨some 12, none, .mv (.k 106), [], 0⟩] false [0, 1, 2, 3, 9, 10, 12] [0])
  (.blk 6 (.loop (.seq (.seq (.reg [] [⟨some 107, none, .mv (.t 12), [], 0⟩,
    ⟨some 108, none, .mv (.t 2), [], 0⟩,
    ⟨some 109, none, .bin .lss (.k 107) (.k 108), [], 0⟩] false [0, 1, 2, 3, 9, 10, 12, 109] [0])
  (.cond 109 .skip
  (.exit 6)))
  (.seq (.blk 7 (.seq (.seq (.reg [.thaw 0] [⟨some 112, none, .mv (.t 3), [], 0⟩,
    ⟨some 113, none, .mv (.t 0), [0], 0⟩,
    ⟨some 114, none, .mv (.t 12), [0, 1], 0⟩,
    ⟨some 115, none, .ia 3 none (.k 113) (.k 114), [0], 0⟩,
    ⟨some 116, none, .ld true 3 .cp (.k 115), [0], 0⟩,
    ⟨some 117, none, .mv (.t 0), [0, 1, 2, 3, 4], 0⟩,
    ⟨some 118, none, .mv (.t 12), [0, 1, 2, 3, 4, 5], 0⟩,
    ⟨some 119, none, .bin .sub (.k 118) (.c (.i .i64 1)), [0, 1, 2, 3, 4, 5], 0⟩,
    ⟨some 120, none, .ia 3 none (.k 117) (.k 119), [0, 1, 2, 3, 4], 0⟩,
    ⟨some 121, none, .ld true 3 .cp (.k 120), [0, 1, 2, 3, 4], 0⟩,
    ⟨some 122, none, .callv (.k 112) [.k 116, .k 121], [], 0⟩,
    ⟨some 123, none, .bin .lss (.k 122) (.c (.i .i64 0)), [], 0⟩,
    ⟨some 124, none, .un .not (.k 123), [], 0⟩] true [0, 1, 2, 3, 9, 10, 12, 124] [0])
  (.cond 124 (.exit 6)
  .skip))
  (.reg [.thaw 0] [⟨some 125, none, .mv (.t 0), [], 0⟩,
    ⟨some 126, none, .mv (.t 12), [0], 0⟩,
    ⟨some 127, none, .mv (.t 0), [0, 1], 0⟩,
    ⟨some 128, none, .mv (.t 12), [0, 1, 2], 0⟩,
    ⟨some 129, none, .bin .sub (.k 128) (.c (.i .i64 1)), [0, 1, 2], 0⟩,
    ⟨some 130, none, .mv (.t 0), [0, 1, 2, 3, 4], 0⟩,
    ⟨some 131, none, .mv (.t 12), [0, 1, 2, 3, 4, 5], 0⟩,
    ⟨some 132, none, .bin .sub (.k 131) (.c (.i .i64 1)), [0, 1, 2, 3, 4, 5], 0⟩,
    ⟨some 133, none, .ia 3 none (.k 130) (.k 132), [0, 1, 2, 3, 4], 0⟩,
    ⟨some 134, none, .ld true 3 .cp (.k 133), [0, 1, 2, 3, 4], 0⟩,
    ⟨some 135, none, .mv (.t 0), [0, 1, 2, 3, 4, 5, 6, 7, 8, 9], 0⟩,
    ⟨some 136, none, .mv (.t 12), [0, 1, 2, 3, 4, 5, 6, 7, 8, 9, 10], 0⟩,
    ⟨some 137, none, .ia 3 none (.k 135) (.k 136), [0, 1, 2, 3, 4, 5, 6, 7, 8, 9], 0⟩,
    ⟨some 138, none, .ld true 3 .cp (.k 137), [0, 1, 2, 3, 4, 5, 6, 7, 8, 9], 0⟩,
    ⟨some 139, none, .ia 3 none (.k 125) (.k 126), [2, 3, 4], 0⟩,
    ⟨none, none, .st 3 (.k 139) (.k 134), [2, 3, 4], 0⟩,
    ⟨some 140, none, .ia 3 none (.k 127) (.k 129), [], 0⟩,
    ⟨none, none, .st 3 (.k 140) (.k 138), [], 0⟩] true [0, 1, 2, 3, 9, 10, 12] [0])))
  (.reg [] [⟨some 110, none, .mv (.k 12), [], 0⟩,
    ⟨some 111, none, .bin .add (.k 110) (.c (.i .i64 1)), [], 0⟩,
    ⟨some 12, none, .mv (.k 111), [], 0⟩] false [0, 1, 2, 3, 9, 10, 12] [0]))))))
  .skip))))))))
  (.reg [] [⟨some 17, none, .mv (.k 10), [], 0⟩,
    ⟨some 18, none, .bin .add (.k 17) (.c (.i .i64 1)), [], 0⟩,
    ⟨some 10, none, .mv (.k 18), [], 0⟩] false [0, 1, 2, 3, 9, 10] [0]))))))
  (.seq (.reg [] [⟨some 8, none, .mv (.c (.b false)), [], 0⟩] false [8] [])
  .ret))))⟩

def F_slices_partitionEqualCmpFunc_cell_Cell : F := ⟨5, [.inl 10],
  (.seq (.reg [] [⟨some 10, none, .mv (.c (.i .i64 0)), [], 0⟩] false [0, 1, 2, 3, 4] [0])
  (.seq (.reg [.thaw 0] [⟨some 13, none, .mv (.t 0), [], 0⟩,
    ⟨some 14, none, .mv (.t 1), [0], 0⟩,
    ⟨some 15, none, .mv (.t 0), [0, 1], 0⟩,
    ⟨some 16, none, .mv (.t 3), [0, 1, 2], 0⟩,
    ⟨some 17, none, .mv (.t 0), [0, 1, 2, 3], 0⟩,
    ⟨some 18, none, .mv (.t 3), [0, 1, 2, 3, 4], 0⟩,
    ⟨some 19, none, .ia 3 none (.k 17) (.k 18), [0, 1, 2, 3], 0⟩,
    ⟨some 20, none, .ld true 3 .cp (.k 19), [0, 1, 2, 3], 0⟩,
    ⟨some 21, none, .mv (.t 0), [0, 1, 2, 3, 4, 5, 6, 7], 0⟩,
    ⟨some 22, none, .mv (.t 1), [0, 1, 2, 3, 4, 5, 6, 7, 8], 0⟩,
    ⟨some 23, none, .ia 3 none (.k 21) (.k 22), [0, 1, 2, 3, 4, 5, 6, 7], 0⟩,
    ⟨some 24, none, .ld true 3 .cp (.k 23), [0, 1, 2, 3, 4, 5, 6, 7], 0⟩,
    ⟨some 25, none, .ia 3 none (.k 13) (.k 14), [2, 3], 0⟩,
    ⟨none, none, .st 3 (.k 25) (.k 20), [2, 3], 0⟩,
    ⟨some 26, none, .ia 3 none (.k 15) (.k 16), [], 0⟩,
    ⟨none, none, .st 3 (.k 26) (.k 24), [], 0⟩] true [0, 1, 2, 4] [0])
  (.seq (.reg [] [⟨some 27, none, .mv (.t 1), [], 0⟩,
    ⟨some 28, none, .bin .add (.k 27) (.c (.i .i64 1)), [], 0⟩,
    ⟨some 29, none, .mv (.k 2), [], 0⟩,
    ⟨some 30, none, .bin .sub (.k 29) (.c (.i .i64 1)), [], 0⟩,
    ⟨some 11, none, .mv (.k 28), [], 0⟩,
    ⟨some 12, none, .mv (.k 30), [], 0⟩] false [0, 1, 4, 11, 12] [0])
  (.seq (.blk 0 (.loop (.blk 1 (.seq (.blk 2 (.loop (.seq (.seq (.reg [.thaw 0] [⟨some 31, none, .mv (.t 11), [], 0⟩,
    ⟨some 32, none, .mv (.t 12), [0], 0⟩,
    ⟨some 33, none, .bin .leq (.k 31) (.k 32), [], 0⟩,
    ⟨some 34, none, .mv (.k 33), [], 0⟩,
    ⟨some 35, some (34, true), .mv (.t 4), [], 0⟩,
    ⟨some 36, some (34, true), .mv (.t 0), [4], 0⟩,
    ⟨some 37, some (34, true), .mv (.t 1), [4, 5], 0⟩,
    ⟨some 38, some (34, true), .ia 3 none (.k 36) (.k 37), [4], 0⟩,
    ⟨some 39, some (34, true), .ld true 3 .cp (.k 38), [4], 0⟩,
    ⟨some 40, some (34, true), .mv (.t 0), [4, 5, 6, 7, 8], 0⟩,
    ⟨some 41, some (34, true), .mv (.t 11), [4, 5, 6, 7, 8, 9], 0⟩,
    ⟨some 42, some (34, true), .ia 3 none (.k 40) (.k 41), [4, 5, 6, 7, 8], 0⟩,
    ⟨some 43, some (34, true), .ld true 3 .cp (.k 42), [4, 5, 6, 7, 8], 0⟩,
    ⟨some 44, some (34, true), .callv (.k 35) [.k 39, .k 43], [], 0⟩,
    ⟨some 45, some (34, true), .bin .lss (.k 44) (.c (.i .i64 0)), [], 0⟩,
    ⟨some 46, some (34, true), .un .not (.k 45), [], 0⟩,
    ⟨some 47, none, .pick (.t 34) (.k 46) (.c (.b false)), [], 0⟩] true [0, 1, 4, 11, 12, 47] [0])
  (.cond 47 .skip
  (.exit 2)))
  (.blk 3 (.reg [] [⟨some 48, none, .mv (.k 11), [], 0⟩,
    ⟨some 49, none, .bin .add (.k 48) (.c (.i .i64 1)), [], 0⟩,
    ⟨some 11, none, .mv (.k 49), [], 0⟩] false [0, 1, 4, 11, 12] [0])))))
  (.seq (.blk 4 (.loop (.seq (.seq (.reg [.thaw 0] [⟨some 50, none, .mv (.t 11), [], 0⟩,
    ⟨some 51, none, .mv (.t 12), [0], 0⟩,
    ⟨some 52, none, .bin .leq (.k 50) (.k 51), [], 0⟩,
    ⟨some 53, none, .mv (.k 52), [], 0⟩,
    ⟨some 54, some (53, true), .mv (.t 4), [], 0⟩,
    ⟨some 55, some (53, true), .mv (.t 0), [4], 0⟩,
    ⟨some 56, some (53, true), .mv (.t 1), [4, 5], 0⟩,
    ⟨some 57, some (53, true), .ia 3 none (.k 55) (.k 56), [4], 0⟩,
    ⟨some 58, some (53, true), .ld true 3 .cp (.k 57), [4], 0⟩,
    ⟨some 59, some (53, true), .mv (.t 0), [4, 5, 6, 7, 8], 0⟩,
    ⟨some 60, some (53, true), .mv (.t 12), [4, 5, 6, 7, 8, 9], 0⟩,
    ⟨some 61, some (53, true), .ia 3 none (.k 59) (.k 60), [4, 5, 6, 7, 8], 0⟩,
    ⟨some 62, some (53, true), .ld true 3 .cp (.k 61), [4, 5, 6, 7, 8], 0⟩,
    ⟨some 63, some (53, true), .callv (.k 54) [.k 58, .k 62], [], 0⟩,
    ⟨some 64, some (53, true), .bin .lss (.k 63) (.c (.i .i64 0)), [], 0⟩,
    ⟨some 65, none, .pick (.t 53) (.k 64) (.c (.b false)), [], 0⟩] true [0, 1, 4, 11, 12, 65] [0])
  (.cond 65 .skip
  (.exit 4)))
  (.blk 5 (.reg [] [⟨some 66, none, .mv (.k 12), [], 0⟩,
    ⟨some 67, none, .bin .sub (.k 66) (.c (.i .i64 1)), [], 0⟩,
    ⟨some 12, none, .mv (.k 67), [], 0⟩] false [0, 1, 4, 11, 12] [0])))))
  (.seq (.seq (.reg [] [⟨some 68, none, .mv (.t 11), [], 0⟩,
    ⟨some 69, none, .mv (.t 12), [], 0⟩,
    ⟨some 70, none, .bin .gtr (.k 68) (.k 69), [], 0⟩] false [0, 1, 4, 11, 12, 70] [0])
  (.cond 70 (.exit 0)
  .skip))
  (.seq (.reg [.thaw 0] [⟨some 71, none, .mv (.t 0), [], 0⟩,
    ⟨some 72, none, .mv (.t 11), [0], 0⟩,
    ⟨some 73, none, .mv (.t 0), [0, 1], 0⟩,
    ⟨some 74, none, .mv (.t 12), [0, 1, 2], 0⟩,
    ⟨some 75, none, .mv (.t 0), [0, 1, 2, 3], 0⟩,
    ⟨some 76, none, .mv (.t 12), [0, 1, 2, 3, 4], 0⟩,
    ⟨some 77, none, .ia 3 none (.k 75) (.k 76), [0, 1, 2, 3], 0⟩,
    ⟨some 78, none, .ld true 3 .cp (.k 77), [0, 1, 2, 3], 0⟩,
    ⟨some 79, none, .mv (.t 0), [0, 1, 2, 3, 4, 5, 6, 7], 0⟩,
    ⟨some 80, none, .mv (.t 11), [0, 1, 2, 3, 4, 5, 6, 7, 8], 0⟩,
    ⟨some 81, none, .ia 3 none (.k 79) (.k 80), [0, 1, 2, 3, 4, 5, 6, 7], 0⟩,
    ⟨some 82, none, .ld true 3 .cp (.k 81), [0, 1, 2, 3, 4, 5, 6, 7], 0⟩,
    ⟨some 83, none, .ia 3 none (.k 71) (.k 72), [2, 3], 0⟩,
    ⟨none, none, .st 3 (.k 83) (.k 78), [2, 3], 0⟩,
    ⟨some 84, none, .ia 3 none (.k 73) (.k 74), [], 0⟩,
    ⟨none, none, .st 3 (.k 84) (.k 82), [], 0⟩] true [0, 1, 4, 11, 12] [0])
  (.seq (.reg [] [⟨some 85, none, .mv (.k 11), [], 0⟩,
    ⟨some 86, none, .bin .add (.k 85) (.c (.i .i64 1)), [], 0⟩,
    ⟨some 11, none, .mv (.k 86), [], 0⟩] false [0, 1, 4, 11, 12] [0])
  (.reg [] [⟨some 87, none, .mv (.k 12), [], 0⟩,
    ⟨some 88, none, .bin .sub (.k 87) (.c (.i .i64 1)), [], 0⟩,
    ⟨some 12, none, .mv (.k 88), [], 0⟩] false [0, 1, 4, 11, 12] [0])))))))))
  (.seq (.reg [] [⟨some 89, none, .mv (.k 11), [], 0⟩,
    ⟨some 10, none, .mv (.k 89), [], 0⟩] false [10] [])
  .ret)))))⟩

def F_slices_partitionCmpFunc_cell_Cell : F := ⟨5, [.inl 10, .inl 11],
  (.seq (.reg [] [⟨some 10, none, .mv (.c (.i .i64 0)), [], 0⟩,
    ⟨some 11, none, .mv (.c (.b false)), [], 0⟩] false [0, 1, 2, 3, 4] [0])
  (.seq (.reg [.thaw 0] [⟨some 14, none, .mv (.t 0), [], 0⟩,
    ⟨some 15, none, .mv (.t 1), [0], 0⟩,
    ⟨some 16, none, .mv (.t 0), [0, 1], 0⟩,
    ⟨some 17, none, .mv (.t 3), [0, 1, 2], 0⟩,
    ⟨some 18, none, .mv (.t 0), [0, 1, 2, 3], 0⟩,
    ⟨some 19, none, .mv (.t 3), [0, 1, 2, 3, 4], 0⟩,
    ⟨some 20, none, .ia 3 none (.k 18) (.k 19), [0, 1, 2, 3], 0⟩,
    ⟨some 21, none, .ld true 3 .cp (.k 20), [0, 1, 2, 3], 0⟩,
    ⟨some 22, none, .mv (.t 0), [0, 1, 2, 3, 4, 5, 6, 7], 0⟩,
    ⟨some 23, none, .mv (.t 1), [0, 1, 2, 3, 4, 5, 6, 7, 8], 0⟩,
    ⟨some 24, none, .ia 3 none (.k 22) (.k 23), [0, 1, 2, 3, 4, 5, 6, 7], 0⟩,
    ⟨some 25, none, .ld true 3 .cp (.k 24), [0, 1, 2, 3, 4, 5, 6, 7], 0⟩,
    ⟨some 26, none, .ia 3 none (.k 14) (.k 15), [2, 3], 0⟩,
    ⟨none, none, .st 3 (.k 26) (.k 21), [2, 3], 0⟩,
    ⟨some 27, none, .ia 3 none (.k 16) (.k 17), [], 0⟩,
    ⟨none, none, .st 3 (.k 27) (.k 25), [], 0⟩] true [0, 1, 2, 4] [0])
  (.seq (.reg [] [⟨some 28, none, .mv (.t 1), [], 0⟩,
    ⟨some 29, none, .bin .add (.k 28) (.c (.i .i64 1)), [], 0⟩,
    ⟨some 30, none, .mv (.k 2), [], 0⟩,
    ⟨some 31, none, .bin .sub (.k 30) (.c (.i .i64 1)), [], 0⟩,
    ⟨some 12, none, .mv (.k 29), [], 0⟩,
    ⟨some 13, none, .mv (.k 31), [], 0⟩] false [0, 1, 4, 12, 13] [0])
  (.seq (.blk 0 (.loop (.seq (.seq (.reg [.thaw 0] [⟨some 32, none, .mv (.t 12), [], 0⟩,
    ⟨some 33, none, .mv (.t 13), [0], 0⟩,
    ⟨some 34, none, .bin .leq (.k 32) (.k 33), [], 0⟩,
    ⟨some 35, none, .mv (.k 34), [], 0⟩,
    ⟨some 36, some (35, true), .mv (.t 4), [], 0⟩,
    ⟨some 37, some (35, true), .mv (.t 0), [4], 0⟩,
    ⟨some 38, some (35, true), .mv (.t 12), [4, 5], 0⟩,
    ⟨some 39, some (35, true), .ia 3 none (.k 37) (.k 38), [4], 0⟩,
    ⟨some 40, some (35, true), .ld true 3 .cp (.k 39), [4], 0⟩,
    ⟨some 41, some (35, true), .mv (.t 0), [4, 5, 6, 7, 8], 0⟩,
    ⟨some 42, some (35, true), .mv (.t 1), [4, 5, 6, 7, 8, 9], 0⟩,
    ⟨some 43, some (35, true), .ia 3 none (.k 41) (.k 42), [4, 5, 6, 7, 8], 0⟩,
    ⟨some 44, some (35, true), .ld true 3 .cp (.k 43), [4, 5, 6, 7, 8], 0⟩,
    ⟨some 45, some (35, true), .callv (.k 36) [.k 40, .k 44], [], 0⟩,
    ⟨some 46, some (35, true), .bin .lss (.k 45) (.c (.i .i64 0)), [], 0⟩,
    ⟨some 47, none, .pick (.t 35) (.k 46) (.c (.b false)), [], 0⟩] true [0, 1, 4, 12, 13, 47] [0])
  (.cond 47 .skip
  (.exit 0)))
  (.blk 1 (.reg [] [⟨some 48, none, .mv (.k 12), [], 0⟩,
    ⟨some 49, none, .bin .add (.k 48) (.c (.i .i64 1)), [], 0⟩,
    ⟨some 12, none, .mv (.k 49), [], 0⟩] false [0, 1, 4, 12, 13] [0])))))
  (.seq (.blk 2 (.loop (.seq (.seq (.reg [.thaw 0] [⟨some 50, none, .mv (.t 12), [], 0⟩,
    ⟨some 51, none, .mv (.t 13), [0], 0⟩,
    ⟨some 52, none, .bin .leq (.k 50) (.k 51), [], 0⟩,
    ⟨some 53, none, .mv (.k 52), [], 0⟩,
    ⟨some 54, some (53, true), .mv (.t 4), [], 0⟩,
    ⟨some 55, some (53, true), .mv (.t 0), [4], 0⟩,
    ⟨some 56, some (53, true), .mv (.t 13), [4, 5], 0⟩,
    ⟨some 57, some (53, true), .ia 3 none (.k 55) (.k 56), [4], 0⟩,
    ⟨some 58, some (53, true), .ld true 3 .cp (.k 57), [4], 0⟩,
    ⟨some 59, some (53, true), .mv (.t 0), [4, 5, 6, 7, 8], 0⟩,
    ⟨some 60, some (53, true), .mv (.t 1), [4, 5, 6, 7, 8, 9], 0⟩,
    ⟨some 61, some (53, true), .ia 3 none (.k 59) (.k 60), [4, 5, 6, 7, 8], 0⟩,
    ⟨some 62, some (53, true), .ld true 3 .cp (.k 61), [4, 5, 6, 7, 8], 0⟩,
    ⟨some 63, some (53, true), .callv (.k 54) [.k 58, .k 62], [], 0⟩,
    ⟨some 64, some (53, true), .bin .lss (.k 63) (.c (.i .i64 0)), [], 0⟩,
    ⟨some 65, some (53, true), .un .not (.k 64), [], 0⟩,
    ⟨some 66, none, .pick (.t 53) (.k 65) (.c (.b false)), [], 0⟩] true [0, 1, 4, 12, 13, 66] [0])
  (.cond 66 .skip
  (.exit 2)))
  (.blk 3 (.reg [] [⟨some 67, none, .mv (.k 13), [], 0⟩,
    ⟨some 68, none, .bin .sub (.k 67) (.c (.i .i64 1)), [], 0⟩,
    ⟨some 13, none, .mv (.k 68), [], 0⟩] false [0, 1, 4, 12, 13] [0])))))
  (.seq (.seq (.reg [] [⟨some 69, none, .mv (.t 12), [], 0⟩,
    ⟨some 70, none, .mv (.t 13), [], 0⟩,
    ⟨some 71, none, .bin .gtr (.k 69) (.k 70), [], 0⟩] false [0, 1, 4, 12, 13, 71] [0])
  (.cond 71 (.seq (.reg [.thaw 0] [⟨some 72, none, .mv (.t 0), [], 0⟩,
    ⟨some 73, none, .mv (.t 13), [0], 0⟩,
    ⟨some 74, none, .mv (.t 0), [0, 1], 0⟩,
    ⟨some 75, none, .mv (.t 1), [0, 1, 2], 0⟩,
    ⟨some 76, none, .mv (.t 0), [0, 1, 2, 3], 0⟩,
    ⟨some 77, none, .mv (.t 1), [0, 1, 2, 3, 4], 0⟩,
    ⟨some 78, none, .ia 3 none (.k 76) (.k 77), [0, 1, 2, 3], 0⟩,
    ⟨some 79, none, .ld true 3 .cp (.k 78), [0, 1, 2, 3], 0⟩,
    ⟨some 80, none, .mv (.t 0), [0, 1, 2, 3, 4, 5, 6, 7], 0⟩,
    ⟨some 81, none, .mv (.t 13), [0, 1, 2, 3, 4, 5, 6, 7, 8], 0⟩,
    ⟨some 82, none, .ia 3 none (.k 80) (.k 81), [0, 1, 2, 3, 4, 5, 6, 7], 0⟩,
    ⟨some 83, none, .ld true 3 .cp (.k 82), [0, 1, 2, 3, 4, 5, 6, 7], 0⟩,
    ⟨some 84, none, .ia 3 none (.k 72) (.k 73), [2, 3], 0⟩,
    ⟨none, none, .st 3 (.k 84) (.k 79), [2, 3], 0⟩,
    ⟨some 85, none, .ia 3 none (.k 74) (.k 75), [], 0⟩,
    ⟨none, none, .st 3 (.k 85) (.k 83), [], 0⟩] true [13] [])
  (.seq (.reg [] [⟨some 86, none, .mv (.k 13), [], 0⟩,
    ⟨some 10, none, .mv (.k 86), [], 0⟩,
    ⟨some 11, none, .mv (.c (.b true)), [], 0⟩] false [10, 11] [])
  .ret))
  .skip))
  (.seq (.reg [.thaw 0] [⟨some 87, none, .mv (.t 0), [], 0⟩,
    ⟨some 88, none, .mv (.t 12), [0], 0⟩,
    ⟨some 89, none, .mv (.t 0), [0, 1], 0⟩,
    ⟨some 90, none, .mv (.t 13), [0, 1, 2], 0⟩,
    ⟨some 91, none, .mv (.t 0), [0, 1, 2, 3], 0⟩,
    ⟨some 92, none, .mv (.t 13), [0, 1, 2, 3, 4], 0⟩,
    ⟨some 93, none, .ia 3 none (.k 91) (.k 92), [0, 1, 2, 3], 0⟩,
    ⟨some 94, none, .ld true 3 .cp (.k 93), [0, 1, 2, 3], 0⟩,
    ⟨some 95, none, .mv (.t 0), [0, 1, 2, 3, 4, 5, 6, 7], 0⟩,
    ⟨some 96, none, .mv (.t 12), [0, 1, 2, 3, 4, 5, 6, 7, 8], 0⟩,
    ⟨some 97, none, .ia 3 none (.k 95) (.k 96), [0, 1, 2, 3, 4, 5, 6, 7], 0⟩,
    ⟨some 98, none, .ld true 3 .cp (.k 97), [0, 1, 2, 3, 4, 5, 6, 7], 0⟩,
    ⟨some 99, none, .ia 3 none (.k 87) (.k 88), [2, 3], 0⟩,
    ⟨none, none, .st 3 (.k 99) (.k 94), [2, 3], 0⟩,
    ⟨some 100, none, .ia 3 none (.k 89) (.k 90), [], 0⟩,
    ⟨none, none, .st 3 (.k 100) (.k 98), [], 0⟩] true [0, 1, 4, 12, 13] [0])
  (.seq (.reg [] [⟨some 101, none, .mv (.k 12), [], 0⟩,
    ⟨some 102, none, .bin .add (.k 101) (.c (.i .i64 1)), [], 0⟩,
    ⟨some 12, none, .mv (.k 102), [], 0⟩] false [0, 1, 4, 12, 13] [0])
  (.seq (.reg [] [⟨some 103, none, .mv (.k 13), [], 0⟩,
    ⟨some 104, none, .bin .sub (.k 103) (.c (.i .i64 1)), [], 0⟩,
    ⟨some 13, none, .mv (.k 104), [], 0⟩] false [0, 1, 4, 12, 13] [0])
  (.seq (.blk 4 (.loop (.blk 5 (.seq (.blk 6 (.loop (.seq (.seq (.reg [.thaw 0] [⟨some 105, none, .mv (.t 12), [], 0⟩,
    ⟨some 106, none, .mv (.t 13), [0], 0⟩,
    ⟨some 107, none, .bin .leq (.k 105) (.k 106), [], 0⟩,
    ⟨some 108, none, .mv (.k 107), [], 0⟩,
    ⟨some 109, some (108, true), .mv (.t 4), [], 0⟩,
    ⟨some 110, some (108, true), .mv (.t 0), [4], 0⟩,
    ⟨some 111, some (108, true), .mv (.t 12), [4, 5], 0⟩,
    ⟨some 112, some (108, true), .ia 3 none (.k 110) (.k 111), [4], 0⟩,
    ⟨some 113, some (108, true), .ld true 3 .cp (.k 112), [4], 0⟩,
    ⟨some 114, some (108, true), .mv (.t 0), [4, 5, 6, 7, 8], 0⟩,
    ⟨some 115, some (108, true), .mv (.t 1), [4, 5, 6, 7, 8, 9], 0⟩,
    ⟨some 116, some (108, true), .ia 3 none (.k 114) (.k 115), [4, 5, 6, 7, 8], 0⟩,
    ⟨some 117, some (108, true), .ld true 3 .cp (.k 116), [4, 5, 6, 7, 8], 0⟩,
    ⟨some 118, some (108, true), .callv (.k 109) [.k 113, .k 117], [], 0⟩,
    ⟨some 119, some (108, true), .bin .lss (.k 118) (.c (.i .i64 0)), [], 0⟩,
    ⟨some 120, none, .pick (.t 108) (.k 119) (.c (.b false)), [], 0⟩] true [0, 1, 4, 12, 13, 120] [0])
  (.cond 120 .skip
  (.exit 6)))
  (.blk 7 (.reg [] [⟨some 121, none, .mv (.k 12), [], 0⟩,
    ⟨some 122, none, .bin .add (.k 121) (.c (.i .i64 1)), [], 0⟩,
    ⟨some 12, none, .mv (.k 122), [], 0⟩] false [0, 1, 4, 12, 13] [0])))))
  (.seq (.blk 8 (.loop (.seq (.seq (.reg [.thaw 0] [⟨some 123, none, .mv (.t 12), [], 0⟩,
    ⟨some 124, none, .mv (.t 13), [0], 0⟩,
    ⟨some 125, none, .bin .leq (.k 123) (.k 124), [], 0⟩,
    ⟨some 126, none, .mv (.k 125), [], 0⟩,
    ⟨some 127, some (126, true), .mv (.t 4), [], 0⟩,
    ⟨some 128, some (126, true), .mv (.t 0), [4], 0⟩,
    ⟨some 129, some (126, true), .mv (.t 13), [4, 5], 0⟩,
    ⟨some 130, some (126, true), .ia 3 none (.k 128) (.k 129), [4], 0⟩,
    ⟨some 131, some (126, true), .ld true 3 .cp (.k 130), [4], 0⟩,
    ⟨some 132, some (126, true), .mv (.t 0), [4, 5, 6, 7, 8], 0⟩,
    ⟨some 133, some (126, true), .mv (.t 1), [4, 5, 6, 7, 8, 9], 0⟩,
    ⟨some 134, some (126, true), .ia 3 none (.k 132) (.k 133), [4, 5, 6, 7, 8], 0⟩,
    ⟨some 135, some (126, true), .ld true 3 .cp (.k 134), [4, 5, 6, 7, 8], 0⟩,
    ⟨some 136, some (126, true), .callv (.k 127) [.k 131, .k 135], [], 0⟩,
    ⟨some 137, some (126, true), .bin .lss (.k 136) (.c (.i .i64 0)), [], 0⟩,
    ⟨some 138, some (126, true), .un .not (.k 137), [], 0⟩,
    ⟨some 139, none, .pick (.t 126) (.k 138) (.c (.b false)), [], 0⟩] true [0, 1, 4, 12, 13, 139] [0])
  (.cond 139 .skip
  (.exit 8)))
  (.blk 9 (.reg [] [⟨some 140, none, .mv (.k 13), [], 0⟩,
    ⟨some 141, none, .bin .sub (.k 140) (.c (.i .i64 1)), [], 0⟩,
    ⟨some 13, none, .mv (.k 141), [], 0⟩] false [0, 1, 4, 12, 13] [0])))))
  (.seq (.seq (.reg [] [⟨some 142, none, .mv (.t 12), [], 0⟩,
    ⟨some 143, none, .mv (.t 13), [], 0⟩,
    ⟨some 144, none, .bin .gtr (.k 142) (.k 143), [], 0⟩] false [0, 1, 4, 12, 13, 144] [0])
  (.cond 144 (.exit 4)
  .skip))
  (.seq (.reg [.thaw 0] [⟨some 145, none, .mv (.t 0), [], 0⟩,
    ⟨some 146, none, .mv (.t 12), [0], 0⟩,
    ⟨some 147, none, .mv (.t 0), [0, 1], 0⟩,
    ⟨some 148, none, .mv (.t 13), [0, 1, 2], 0⟩,
    ⟨some 149, none, .mv (.t 0), [0, 1, 2, 3], 0⟩,
    ⟨some 150, none, .mv (.t 13), [0, 1, 2, 3, 4], 0⟩,
    ⟨some 151, none, .ia 3 none (.k 149) (.k 150), [0, 1, 2, 3], 0⟩,
    ⟨some 152, none, .ld true 3 .cp (.k 151), [0, 1, 2, 3], 0⟩,
    ⟨some 153, none, .mv (.t 0), [0, 1, 2, 3, 4, 5, 6, 7], 0⟩,
    ⟨some 154, none, .mv (.t 12), [0, 1, 2, 3, 4, 5, 6, 7, 8], 0⟩,
    ⟨some 155, none, .ia 3 none (.k 153) (.k 154), [0, 1, 2, 3, 4, 5, 6, 7], 0⟩,
    ⟨some 156, none, .ld true 3 .cp (.k 155), [0, 1, 2, 3, 4, 5, 6, 7], 0⟩,
    ⟨some 157, none, .ia 3 none (.k 145) (.k 146), [2, 3], 0⟩,
    ⟨none, none, .st 3 (.k 157) (.k 152), [2, 3], 0⟩,
    ⟨some 158, none, .ia 3 none (.k 147) (.k 148), [], 0⟩,
    ⟨none, none, .st 3 (.k 158) (.k 156), [], 0⟩] true [0, 1, 4, 12, 13] [0])
  (.seq (.reg [] [⟨some 159, none, .mv (.k 12), [], 0⟩,
    ⟨some 160, none, .bin .add (.k 159) (.c (.i .i64 1)), [], 0⟩,
    ⟨some 12, none, .mv (.k 160), [], 0⟩] false [0, 1, 4, 12, 13] [0])
  (.reg [] [⟨some 161, none, .mv (.k 13), [], 0⟩,
    ⟨some 162, none, .bin .sub (.k 161) (.c (.i .i64 1)), [], 0⟩,
    ⟨some 13, none, .mv (.k 162), [], 0⟩] false [0, 1, 4, 12, 13] [0])))))))))
  (.seq (.reg [.thaw 0] [⟨some 163, none, .mv (.t 0), [], 0⟩,
    ⟨some 164, none, .mv (.t 13), [0], 0⟩,
    ⟨some 165, none, .mv (.t 0), [0, 1], 0⟩,
    ⟨some 166, none, .mv (.t 1), [0, 1, 2], 0⟩,
    ⟨some 167, none, .mv (.t 0), [0, 1, 2, 3], 0⟩,
    ⟨some 168, none, .mv (.t 1), [0, 1, 2, 3, 4], 0⟩,
    ⟨some 169, none, .ia 3 none (.k 167) (.k 168), [0, 1, 2, 3], 0⟩,
    ⟨some 170, none, .ld true 3 .cp (.k 169), [0, 1, 2, 3], 0⟩,
    ⟨some 171, none, .mv (.t 0), [0, 1, 2, 3, 4, 5, 6, 7], 0⟩,
    ⟨some 172, none, .mv (.t 13), [0, 1, 2, 3, 4, 5, 6, 7, 8], 0⟩,
    ⟨some 173, none, .ia 3 none (.k 171) (.k 172), [0, 1, 2, 3, 4, 5, 6, 7], 0⟩,
    ⟨some 174, none, .ld true 3 .cp (.k 173), [0, 1, 2, 3, 4, 5, 6, 7], 0⟩,
    ⟨some 175, none, .ia 3 none (.k 163) (.k 164), [2, 3], 0⟩,
    ⟨none, none, .st 3 (.k 175) (.k 170), [2, 3], 0⟩,
    ⟨some 176, none, .ia 3 none (.k 165) (.k 166), [], 0⟩,
    ⟨none, none, .st 3 (.k 176) (.k 174), [], 0⟩] true [13] [])
  (.seq (.reg [] [⟨some 177, none, .mv (.k 13), [], 0⟩,
    ⟨some 10, none, .mv (.k 177), [], 0⟩,
    ⟨some 11, none, .mv (.c (.b false)), [], 0⟩] false [10, 11] [])
  .ret))))))))))))⟩

def F_math_bits_Len32 : F := ⟨1, [.inl 2],
  (.seq (.reg [] [⟨some 2, none, .mv (.c (.i .i64 0)), [], 0⟩] false [0, 2] [])
  (.seq (.seq (.reg [] [⟨some 3, none, .mv (.t 0), [], 0⟩,
    ⟨some 4, none, .bin .geq (.k 3) (.c (.i .u32 65536)), [], 0⟩] false [0, 2, 4] [])
  (.cond 4 (.seq (.reg [] [⟨some 5, none, .mv (.k 0), [], 0⟩,
    ⟨some 6, none, .bin .shr (.k 5) (.c (.i .u64 16)), [], 0⟩,
    ⟨some 0, none, .mv (.k 6), [], 0⟩] false [0] [])
  (.reg [] [⟨some 2, none, .mv (.c (.i .i64 16)), [], 0⟩] false [0, 2] []))
  .skip))
  (.seq (.seq (.reg [] [⟨some 7, none, .mv (.t 0), [], 0⟩,
    ⟨some 8, none, .bin .geq (.k 7) (.c (.i .u32 256)), [], 0⟩] false [0, 2, 8] [])
  (.cond 8 (.seq (.reg [] [⟨some 9, none, .mv (.k 0), [], 0⟩,
    ⟨some 10, none, .bin .shr (.k 9) (.c (.i .u64 8)), [], 0⟩,
    ⟨some 0, none, .mv (.k 10), [], 0⟩] false [0, 2] [])
  (.reg [] [⟨some 11, none, .mv (.k 2), [], 0⟩,
    ⟨some 12, none, .bin .add (.k 11) (.c (.i .i64 8)), [], 0⟩,
    ⟨some 2, none, .mv (.k 12), [], 0⟩] false [0, 2] []))
  .skip))
  (.seq (.reg [] [⟨some 13, none, .mv (.k 2), [], 0⟩,
    ⟨some 14, none, .mv (.k 0), [], 0⟩,
    ⟨some 15, none, .cv (.int .u8) (.k 14), [], 0⟩,
    ⟨some 16, none, .ixs (.c (.s ⟨#[0, 1, 2, 2, 3, 3, 3, 3, 4, 4, 4, 4, 4, 4, 4, 4, 5, 5, 5, 5, 5, 5, 5, 5, 5, 5, 5, 5, 5, 5, 5, 5, 6, 6, 6, 6, 6, 6, 6, 6, 6, 6, 6, 6, 6, 6, 6, 6, 6, 6, 6, 6, 6, 6, 6, 6, 6, 6, 6, 6, 6, 6, 6, 6, 7, 7, 7, 7, 7, 7, 7, 7, 7, 7, 7, 7, 7, 7, 7, 7, 7, 7, 7, 7, 7, 7, 7, 7, 7, 7, 7, 7, 7, 7, 7, 7, 7, 7, 7, 7, 7, 7, 7, 7, 7, 7, 7, 7, 7, 7, 7, 7, 7, 7, 7, 7, 7, 7, 7, 7, 7, 7, 7, 7, 7, 7, 7, 7, 8, 8, 8, 8, 8, 8, 8, 8, 8, 8, 8, 8, 8, 8, 8, 8, 8, 8, 8, 8, 8, 8, 8, 8, 8, 8, 8, 8, 8, 8, 8, 8, 8, 8, 8, 8, 8, 8, 8, 8, 8, 8, 8, 8, 8, 8, 8, 8, 8, 8, 8, 8, 8, 8, 8, 8, 8, 8, 8, 8, 8, 8, 8, 8, 8, 8, 8, 8, 8, 8, 8, 8, 8, 8, 8, 8, 8, 8, 8, 8, 8, 8, 8, 8, 8, 8, 8, 8, 8, 8, 8, 8, 8, 8, 8, 8, 8, 8, 8, 8, 8, 8, 8, 8, 8, 8, 8, 8, 8, 8, 8, 8, 8, 8, 8, 8, 8, 8, 8, 8, 8, 8, 8, 8, 8, 8, 8, 8]⟩)) (.k 15), [], 0⟩,
    ⟨some 17, none, .cv (.int .i64) (.k 16), [], 0⟩,
    ⟨some 18, none, .bin .add (.k 13) (.k 17), [], 0⟩,
    ⟨some 2, none, .mv (.k 18), [], 0⟩] false [2] [])
  .ret))))⟩

def F_math_bits_Len64 : F := ⟨1, [.inl 2],
  (.seq (.reg [] [⟨some 2, none, .mv (.c (.i .i64 0)), [], 0⟩] false [0, 2] [])
  (.seq (.seq (.reg [] [⟨some 3, none, .mv (.t 0), [], 0⟩,
    ⟨some 4, none, .bin .geq (.k 3) (.c (.i .u64 4294967296)), [], 0⟩] false [0, 2, 4] [])
  (.cond 4 (.seq (.reg [] [⟨some 5, none, .mv (.k 0), [], 0⟩,
    ⟨some 6, none, .bin .shr (.k 5) (.c (.i .u64 32)), [], 0⟩,
    ⟨some 0, none, .mv (.k 6), [], 0⟩] false [0] [])
  (.reg [] [⟨some 2, none, .mv (.c (.i .i64 32)), [], 0⟩] false [0, 2] []))
  .skip))
  (.seq (.seq (.reg [] [⟨some 7, none, .mv (.t 0), [], 0⟩,
    ⟨some 8, none, .bin .geq (.k 7) (.c (.i .u64 65536)), [], 0⟩] false [0, 2, 8] [])
  (.cond 8 (.seq (.reg [] [⟨some 9, none, .mv (.k 0), [], 0⟩,
    ⟨some 10, none, .bin .shr (.k 9) (.c (.i .u64 16)), [], 0⟩,
    ⟨some 0, none, .mv (.k 10), [], 0⟩] false [0, 2] [])
  (.reg [] [⟨some 11, none, .mv (.k 2), [], 0⟩,
    ⟨some 12, none, .bin .add (.k 11) (.c (.i .i64 16)), [], 0⟩,
    ⟨some 2, none, .mv (.k 12), [], 0⟩] false [0, 2] []))
  .skip))
  (.seq (.seq (.reg [] [⟨some 13, none, .mv (.t 0), [], 0⟩,
    ⟨some 14, none, .bin .geq (.k 13) (.c (.i .u64 256)), [], 0⟩] false [0, 2, 14] [])
  (.cond 14 (.seq (.reg [] [⟨some 15, none, .mv (.k 0), [], 0⟩,
    ⟨some 16, none, .bin .shr (.k 15) (.c (.i .u64 8)), [], 0⟩,
    ⟨some 0, none, .mv (.k 16), [], 0⟩] false [0, 2] [])
  (.reg [] [⟨some 17, none, .mv (.k 2), [], 0⟩,
    ⟨some 18, none, .bin .add (.k 17) (.c (.i .i64 8)), [], 0⟩,
    ⟨some 2, none, .mv (.k 18), [], 0⟩] false [0, 2] []))
  .skip))
  (.seq (.reg [] [⟨some 19, none, .mv (.k 2), [], 0⟩,
    ⟨some 20, none, .mv (.k 0), [], 0⟩,
    ⟨some 21, none, .cv (.int .u8) (.k 20), [], 0⟩,
    ⟨some 22, none, .ixs (.c (.s ⟨#[0, 1, 2, 2, 3, 3, 3, 3, 4, 4, 4, 4, 4, 4, 4, 4, 5, 5, 5, 5, 5, 5, 5, 5, 5, 5, 5, 5, 5, 5, 5, 5, 6, 6, 6, 6, 6, 6, 6, 6, 6, 6, 6, 6, 6, 6, 6, 6, 6, 6, 6, 6, 6, 6, 6, 6, 6, 6, 6, 6, 6, 6, 6, 6, 7, 7, 7, 7, 7, 7, 7, 7, 7, 7, 7, 7, 7, 7, 7, 7, 7, 7, 7, 7, 7, 7, 7, 7, 7, 7, 7, 7, 7, 7, 7, 7, 7, 7, 7, 7, 7, 7, 7, 7, 7, 7, 7, 7, 7, 7, 7, 7, 7, 7, 7, 7, 7, 7, 7, 7, 7, 7, 7, 7, 7, 7, 7, 7, 8, 8, 8, 8, 8, 8, 8, 8, 8, 8, 8, 8, 8, 8, 8, 8, 8, 8, 8, 8, 8, 8, 8, 8, 8, 8, 8, 8, 8, 8, 8, 8, 8, 8, 8, 8, 8, 8, 8, 8, 8, 8, 8, 8, 8, 8, 8, 8, 8, 8, 8, 8, 8, 8, 8, 8, 8, 8, 8, 8, 8, 8, 8, 8, 8, 8, 8, 8, 8, 8, 8, 8, 8, 8, 8, 8, 8, 8, 8, 8, 8, 8, 8, 8, 8, 8, 8, 8, 8, 8, 8, 8, 8, 8, 8, 8, 8, 8, 8, 8, 8, 8, 8, 8, 8, 8, 8, 8, 8, 8, 8, 8, 8, 8, 8, 8, 8, 8, 8, 8, 8, 8, 8, 8, 8, 8, 8, 8]⟩)) (.k 21), [], 0⟩,
    ⟨some 23, none, .cv (.int .i64) (.k 22), [], 0⟩,
    ⟨some 24, none, .bin .add (.k 19) (.k 23), [], 0⟩,
    ⟨some 2, none, .mv (.k 24), [], 0⟩] false [2] [])
  .ret)))))⟩

def F_wire_Plan_merge : F := ⟨3, [.inl 6],
  (.seq (.reg [.zz 1, .zz 2] [⟨some 6, none, .mv (.c (.l .o 1 [])), [], 0⟩] false [0, 1, 2] [])
  (.seq (.seq (.reg [] [⟨some 11, none, .mv (.t 1), [], 0⟩,
    ⟨some 12, none, .len false (.k 11), [], 0⟩,
    ⟨some 13, none, .bin .eql (.k 12) (.c (.i .i64 1)), [], 0⟩] false [0, 1, 2, 13] [])
  (.cond 13 (.seq (.reg [] [⟨some 14, none, .mv (.t 0), [], 0⟩,
    ⟨some 15, none, .mv (.t 0), [0], 0⟩,
    ⟨some 16, none, .nc (.k 15), [0], 0⟩,
    ⟨some 17, none, .fa 1 (.k 16), [0], 0⟩,
    ⟨some 18, none, .ld false 1 .tk (.k 17), [0], 0⟩,
    ⟨some 19, none, .mv (.t 1), [0, 1, 2, 3, 4], 0⟩,
    ⟨some 20, none, .ia 1 none (.k 19) (.c (.i .i64 0)), [0, 1, 2, 3, 4], 0⟩,
    ⟨some 21, none, .ld false 1 .cp (.k 20), [0, 1, 2, 3, 4], 0⟩,
    ⟨some 22, none, .mv (.t 2), [0, 1, 2, 3, 4, 5, 6, 7], 0⟩,
    ⟨some 23, none, .ia 1 none (.k 22) (.c (.i .i64 0)), [0, 1, 2, 3, 4, 5, 6, 7], 0⟩,
    ⟨some 24, none, .ld false 1 .cp (.k 23), [0, 1, 2, 3, 4, 5, 6, 7], 0⟩,
    ⟨some 25, none, .bd ([.i .i64 0, .i .i64 0]) [(0, 1, .k 21), (1, 1, .k 24)], [0, 1, 2, 3, 4], 0⟩,
    ⟨some 26, none, .bs 2 1 (.a ([.i .i64 0, .i .i64 0])) [(0, .k 25)], [0, 1, 2, 3, 4], 0⟩,
    ⟨some 27, none, .app 2 16 (.k 18) (.k 26), [0], 1⟩,
    ⟨some 28, none, .nc (.k 14), [], 0⟩,
    ⟨some 29, none, .fa 1 (.k 28), [], 0⟩,
    ⟨none, none, .st 1 (.k 29) (.k 27), [], 0⟩] true [1, 2] [])
  (.seq (.reg [] [⟨some 30, none, .mv (.k 1), [], 0⟩,
    ⟨some 31, none, .ia 1 none (.k 30) (.c (.i .i64 0)), [], 0⟩,
    ⟨some 32, none, .ld false 1 .cp (.k 31), [], 0⟩,
    ⟨some 33, none, .mv (.k 2), [0, 1, 2], 0⟩,
    ⟨some 34, none, .ia 1 none (.k 33) (.c (.i .i64 0)), [0, 1, 2], 0⟩,
    ⟨some 35, none, .ld false 1 .cp (.k 34), [0, 1, 2], 0⟩,
    ⟨some 36, none, .bs 1 2 (.i .i64 0) [(0, .k 32), (1, .k 35)], [], 1⟩,
    ⟨some 6, none, .mv (.k 36), [], 0⟩] true [6] [])
  .ret))
  .skip))
  (.seq (.reg [] [⟨some 37, none, .mv (.t 0), [], 0⟩,
    ⟨some 38, none, .mv (.t 1), [], 2⟩,
    ⟨some 39, none, .call n_wire_every [.k 38, .c (.i .i64 0)], [], 2⟩,
    ⟨some 40, none, .mv (.t 2), [], 2⟩,
    ⟨some 41, none, .call n_wire_every [.k 40, .c (.i .i64 1)], [], 2⟩,
    ⟨some 42, none, .call n_wire_Plan_merge [.k 37, .k 39, .k 41], [], 0⟩,
    ⟨some 7, none, .mv (.k 42), [], 0⟩] false [0, 1, 2, 7] [])
  (.seq (.reg [] [⟨some 43, none, .mv (.t 0), [], 0⟩,
    ⟨some 44, none, .mv (.k 1), [], 2⟩,
    ⟨some 45, none, .call n_wire_every [.k 44, .c (.i .i64 1)], [], 2⟩,
    ⟨some 46, none, .mv (.k 2), [], 2⟩,
    ⟨some 47, none, .call n_wire_every [.k 46, .c (.i .i64 0)], [], 2⟩,
    ⟨some 48, none, .call n_wire_Plan_merge [.k 43, .k 45, .k 47], [], 0⟩,
    ⟨some 8, none, .mv (.k 48), [], 0⟩] false [0, 7, 8] [])
  (.seq (.reg [] [⟨some 9, none, .mv (.c (.l .o 1 [])), [], 0⟩] false [0, 7, 8, 9] [])
  (.seq (.seq (.reg [] [⟨some 49, none, .mv (.t 7), [], 0⟩,
    ⟨some 50, none, .len false (.k 49), [], 0⟩,
    ⟨some 51, none, .mv (.c (.i .i64 0)), [], 0⟩] false [0, 7, 8, 9, 50, 51] [])
  (.blk 0 (.loop (.seq (.reg [] [⟨some 52, none, .bin .lss (.t 51) (.t 50), [], 0⟩] false [0, 7, 8, 9, 50, 51, 52] [])
  (.seq (.cond 52 .skip
  (.exit 0))
  (.seq (.blk 1 (.seq (.reg [] [⟨some 53, none, .mv (.t 51), [], 0⟩,
    ⟨some 10, none, .mv (.k 53), [], 0⟩] false [0, 7, 8, 9, 10, 50, 51] [])
  (.seq (.reg [] [⟨some 54, none, .mv (.t 0), [], 0⟩,
    ⟨some 55, none, .mv (.t 0), [0], 0⟩,
    ⟨some 56, none, .nc (.k 55), [0], 0⟩,
    ⟨some 57, none, .fa 1 (.k 56), [0], 0⟩,
    ⟨some 58, none, .ld false 1 .tk (.k 57), [0], 0⟩,
    ⟨some 59, none, .mv (.t 7), [0, 1, 2, 3, 4], 0⟩,
    ⟨some 60, none, .mv (.t 10), [0, 1, 2, 3, 4, 5], 0⟩,
    ⟨some 61, none, .ia 1 none (.k 59) (.k 60), [0, 1, 2, 3, 4], 0⟩,
    ⟨some 62, none, .ld false 1 .cp (.k 61), [0, 1, 2, 3, 4], 0⟩,
    ⟨some 63, none, .mv (.t 8), [0, 1, 2, 3, 4, 5, 6, 7, 8], 0⟩,
    ⟨some 64, none, .mv (.t 10), [0, 1, 2, 3, 4, 5, 6, 7, 8, 9], 0⟩,
    ⟨some 65, none, .ia 1 none (.k 63) (.k 64), [0, 1, 2, 3, 4, 5, 6, 7, 8], 0⟩,
    ⟨some 66, none, .ld false 1 .cp (.k 65), [0, 1, 2, 3, 4, 5, 6, 7, 8], 0⟩,
    ⟨some 67, none, .bd ([.i .i64 0, .i .i64 0]) [(0, 1, .k 62), (1, 1, .k 66)], [0, 1, 2, 3, 4], 0⟩,
    ⟨some 68, none, .bs 2 1 (.a ([.i .i64 0, .i .i64 0])) [(0, .k 67)], [0, 1, 2, 3, 4], 0⟩,
    ⟨some 69, none, .app 2 16 (.k 58) (.k 68), [0], 1⟩,
    ⟨some 70, none, .nc (.k 54), [], 0⟩,
    ⟨some 71, none, .fa 1 (.k 70), [], 0⟩,
    ⟨none, none, .st 1 (.k 71) (.k 69), [], 0⟩] true [0, 7, 8, 9, 10, 50, 51] [])
  (.reg [] [⟨some 72, none, .mv (.k 9), [], 0⟩,
    ⟨some 73, none, .mv (.t 7), [0], 0⟩,
    ⟨some 74, none, .mv (.t 10), [0, 1], 0⟩,
    ⟨some 75, none, .ia 1 none (.k 73) (.k 74), [0], 0⟩,
    ⟨some 76, none, .ld false 1 .cp (.k 75), [0], 0⟩,
    ⟨some 77, none, .mv (.t 8), [0, 1, 2, 3, 4], 0⟩,
    ⟨some 78, none, .mv (.t 10), [0, 1, 2, 3, 4, 5], 0⟩,
    ⟨some 79, none, .ia 1 none (.k 77) (.k 78), [0, 1, 2, 3, 4], 0⟩,
    ⟨some 80, none, .ld false 1 .cp (.k 79), [0, 1, 2, 3, 4], 0⟩,
    ⟨some 81, none, .bs 1 2 (.i .i64 0) [(0, .k 76), (1, .k 80)], [0], 0⟩,
    ⟨some 82, none, .app 1 8 (.k 72) (.k 81), [], 1⟩,
    ⟨some 9, none, .mv (.k 82), [], 0⟩] true [0, 7, 8, 9, 50, 51] []))))
  (.reg [] [⟨some 83, none, .bin .add (.k 51) (.c (.i .i64 1)), [], 0⟩,
    ⟨some 51, none, .mv (.k 83), [], 0⟩] false [0, 7, 8, 9, 50, 51] [])))))))
  (.seq (.reg [] [⟨some 84, none, .mv (.k 9), [], 0⟩,
    ⟨some 6, none, .mv (.k 84), [], 0⟩] false [6] [])
  .ret)))))))⟩

def F_slices_siftDownCmpFunc_cell_Cell : F := ⟨5, [],
  (.seq (.reg [] [⟨some 12, none, .mv (.k 1), [], 0⟩,
    ⟨some 10, none, .mv (.k 12), [], 0⟩] false [0, 2, 3, 4, 10] [0])
  (.blk 0 (.loop (.blk 1 (.seq (.reg [] [⟨some 13, none, .mv (.t 10), [], 0⟩,
    ⟨some 14, none, .bin .mul (.c (.i .i64 2)) (.k 13), [], 0⟩,
    ⟨some 15, none, .bin .add (.k 14) (.c (.i .i64 1)), [], 0⟩,
    ⟨some 11, none, .mv (.k 15), [], 0⟩] false [0, 2, 3, 4, 10, 11] [0])
  (.seq (.seq (.reg [] [⟨some 16, none, .mv (.t 11), [], 0⟩,
    ⟨some 17, none, .mv (.t 2), [], 0⟩,
    ⟨some 18, none, .bin .geq (.k 16) (.k 17), [], 0⟩] false [0, 2, 3, 4, 10, 11, 18] [0])
  (.cond 18 (.exit 0)
  .skip))
  (.seq (.seq (.reg [.thaw 0] [⟨some 19, none, .mv (.t 11), [], 0⟩,
    ⟨some 20, none, .bin .add (.k 19) (.c (.i .i64 1)), [], 0⟩,
    ⟨some 21, none, .mv (.t 2), [0, 1], 0⟩,
    ⟨some 22, none, .bin .lss (.k 20) (.k 21), [], 0⟩,
    ⟨some 23, none, .mv (.k 22), [], 0⟩,
    ⟨some 24, some (23, true), .mv (.t 4), [], 0⟩,
    ⟨some 25, some (23, true), .mv (.t 0), [5], 0⟩,
    ⟨some 26, some (23, true), .mv (.t 3), [5, 6], 0⟩,
    ⟨some 27, some (23, true), .mv (.t 11), [5, 6, 7], 0⟩,
    ⟨some 28, some (23, true), .bin .add (.k 26) (.k 27), [5, 6], 0⟩,
    ⟨some 29, some (23, true), .ia 3 none (.k 25) (.k 28), [5], 0⟩,
    ⟨some 30, some (23, true), .ld true 3 .cp (.k 29), [5], 0⟩,
    ⟨some 31, some (23, true), .mv (.t 0), [5, 6, 7, 8, 9, 10, 11], 0⟩,
    ⟨some 32, some (23, true), .mv (.t 3), [5, 6, 7, 8, 9, 10, 11, 12], 0⟩,
    ⟨some 33, some (23, true), .mv (.t 11), [5, 6, 7, 8, 9, 10, 11, 12, 13], 0⟩,
    ⟨some 34, some (23, true), .bin .add (.k 32) (.k 33), [5, 6, 7, 8, 9, 10, 11, 12], 0⟩,
    ⟨some 35, some (23, true), .bin .add (.k 34) (.c (.i .i64 1)), [5, 6, 7, 8, 9, 10, 11, 12], 0⟩,
    ⟨some 36, some (23, true), .ia 3 none (.k 31) (.k 35), [5, 6, 7, 8, 9, 10, 11], 0⟩,
    ⟨some 37, some (23, true), .ld true 3 .cp (.k 36), [5, 6, 7, 8, 9, 10, 11], 0⟩,
    ⟨some 38, some (23, true), .callv (.k 24) [.k 30, .k 37], [], 0⟩,
    ⟨some 39, some (23, true), .bin .lss (.k 38) (.c (.i .i64 0)), [], 0⟩,
    ⟨some 40, none, .pick (.t 23) (.k 39) (.c (.b false)), [], 0⟩] true [0, 2, 3, 4, 10, 11, 40] [0])
  (.cond 40 (.reg [] [⟨some 41, none, .mv (.k 11), [], 0⟩,
    ⟨some 42, none, .bin .add (.k 41) (.c (.i .i64 1)), [], 0⟩,
    ⟨some 11, none, .mv (.k 42), [], 0⟩] false [0, 2, 3, 4, 10, 11] [0])
  .skip))
  (.seq (.seq (.reg [.thaw 0] [⟨some 43, none, .mv (.t 4), [], 0⟩,
    ⟨some 44, none, .mv (.t 0), [0], 0⟩,
    ⟨some 45, none, .mv (.t 3), [0, 1], 0⟩,
    ⟨some 46, none, .mv (.t 10), [0, 1, 2], 0⟩,
    ⟨some 47, none, .bin .add (.k 45) (.k 46), [0, 1], 0⟩,
    ⟨some 48, none, .ia 3 none (.k 44) (.k 47), [0], 0⟩,
    ⟨some 49, none, .ld true 3 .cp (.k 48), [0], 0⟩,
    ⟨some 50, none, .mv (.t 0), [0, 1, 2, 3, 4, 5, 6], 0⟩,
    ⟨some 51, none, .mv (.t 3), [0, 1, 2, 3, 4, 5, 6, 7], 0⟩,
    ⟨some 52, none, .mv (.t 11), [0, 1, 2, 3, 4, 5, 6, 7, 8], 0⟩,
    ⟨some 53, none, .bin .add (.k 51) (.k 52), [0, 1, 2, 3, 4, 5, 6, 7], 0⟩,
    ⟨some 54, none, .ia 3 none (.k 50) (.k 53), [0, 1, 2, 3, 4, 5, 6], 0⟩,
    ⟨some 55, none, .ld true 3 .cp (.k 54), [0, 1, 2, 3, 4, 5, 6], 0⟩,
    ⟨some 56, none, .callv (.k 43) [.k 49, .k 55], [], 0⟩,
    ⟨some 57, none, .bin .lss (.k 56) (.c (.i .i64 0)), [], 0⟩,
    ⟨some 58, none, .un .not (.k 57), [], 0⟩] true [0, 2, 3, 4, 10, 11, 58] [0])
  (.cond 58 .ret
  .skip))
  (.seq (.reg [.thaw 0] [⟨some 59, none, .mv (.t 0), [], 0⟩,
    ⟨some 60, none, .mv (.t 3), [0], 0⟩,
    ⟨some 61, none, .mv (.t 10), [0, 1], 0⟩,
    ⟨some 62, none, .bin .add (.k 60) (.k 61), [0], 0⟩,
    ⟨some 63, none, .mv (.t 0), [0, 1, 2, 3], 0⟩,
    ⟨some 64, none, .mv (.t 3), [0, 1, 2, 3, 4], 0⟩,
    ⟨some 65, none, .mv (.t 11), [0, 1, 2, 3, 4, 5], 0⟩,
    ⟨some 66, none, .bin .add (.k 64) (.k 65), [0, 1, 2, 3, 4], 0⟩,
    ⟨some 67, none, .mv (.t 0), [0, 1, 2, 3, 4, 5, 6, 7], 0⟩,
    ⟨some 68, none, .mv (.t 3), [0, 1, 2, 3, 4, 5, 6, 7, 8], 0⟩,
    ⟨some 69, none, .mv (.t 11), [0, 1, 2, 3, 4, 5, 6, 7, 8, 9], 0⟩,
    ⟨some 70, none, .bin .add (.k 68) (.k 69), [0, 1, 2, 3, 4, 5, 6, 7, 8], 0⟩,
    ⟨some 71, none, .ia 3 none (.k 67) (.k 70), [0, 1, 2, 3, 4, 5, 6, 7], 0⟩,
    ⟨some 72, none, .ld true 3 .cp (.k 71), [0, 1, 2, 3, 4, 5, 6, 7], 0⟩,
    ⟨some 73, none, .mv (.t 0), [0, 1, 2, 3, 4, 5, 6, 7, 8, 9, 10, 11, 12, 13], 0⟩,
    ⟨some 74, none, .mv (.t 3), [0, 1, 2, 3, 4, 5, 6, 7, 8, 9, 10, 11, 12, 13, 14], 0⟩,
    ⟨some 75, none, .mv (.t 10), [0, 1, 2, 3, 4, 5, 6, 7, 8, 9, 10, 11, 12, 13, 14, 15], 0⟩,
    ⟨some 76, none, .bin .add (.k 74) (.k 75), [0, 1, 2, 3, 4, 5, 6, 7, 8, 9, 10, 11, 12, 13, 14], 0⟩,
    ⟨some 77, none, .ia 3 none (.k 73) (.k 76), [0, 1, 2, 3, 4, 5, 6, 7, 8, 9, 10, 11, 12, 13], 0⟩,
    ⟨some 78, none, .ld true 3 .cp (.k 77), [0, 1, 2, 3, 4, 5, 6, 7, 8, 9, 10, 11, 12, 13], 0⟩,
    ⟨some 79, none, .ia 3 none (.k 59) (.k 62), [4, 5, 6, 7], 0⟩,
    ⟨none, none, .st 3 (.k 79) (.k 72), [4, 5, 6, 7], 0⟩,
    ⟨some 80, none, .ia 3 none (.k 63) (.k 66), [], 0⟩,
    ⟨none, none, .st 3 (.k 80) (.k 78), [], 0⟩] true [0, 2, 3, 4, 11] [0])
  (.reg [] [⟨some 81, none, .mv (.k 11), [], 0⟩,
    ⟨some 10, none, .mv (.k 81), [], 0⟩] false [0, 2, 3, 4, 10] [0]))))))))))⟩

def F_slices_nextPowerOfTwo : F := ⟨1, [.inl 2],
  (.seq (.reg [] [⟨some 2, none, .mv (.c (.i .u64 0)), [], 0⟩] false [0] [])
  (.seq (.reg [] [⟨some 3, none, .mv (.k 0), [], 0⟩,
    ⟨some 4, none, .cv (.int .u64) (.k 3), [], 0⟩,
    ⟨some 5, none, .call n_math_bits_Len [.k 4], [], 0⟩,
    ⟨some 6, none, .bin .shl (.c (.i .u64 1)) (.k 5), [], 0⟩,
    ⟨some 2, none, .mv (.k 6), [], 0⟩] false [2] [])
  .ret))⟩

def F_slices_xorshift_Next : F := ⟨1, [.inl 2],
  (.seq (.reg [] [⟨some 2, none, .mv (.c (.i .u64 0)), [], 0⟩] false [0] [])
  (.seq (.reg [] [⟨some 3, none, .mv (.t 0), [], 0⟩,
    ⟨some 4, none, .nc (.t 3), [], 0⟩,
    ⟨some 5, none, .ld false 1 .cp (.k 4), [], 0⟩,
    ⟨some 6, none, .mv (.t 0), [0, 1, 2], 0⟩,
    ⟨some 7, none, .nc (.k 6), [0, 1, 2], 0⟩,
    ⟨some 8, none, .ld false 1 .cp (.k 7), [0, 1, 2], 0⟩,
    ⟨some 9, none, .bin .shl (.k 8) (.c (.i .u64 13)), [0, 1, 2], 0⟩,
    ⟨some 10, none, .bin .xor (.k 5) (.k 9), [], 0⟩,
    ⟨some 11, none, .nc (.t 3), [], 0⟩,
    ⟨none, none, .st 1 (.k 11) (.k 10), [], 0⟩] true [0] [])
  (.seq (.reg [] [⟨some 12, none, .mv (.t 0), [], 0⟩,
    ⟨some 13, none, .nc (.t 12), [], 0⟩,
    ⟨some 14, none, .ld false 1 .cp (.k 13), [], 0⟩,
    ⟨some 15, none, .mv (.t 0), [0, 1, 2], 0⟩,
    ⟨some 16, none, .nc (.k 15), [0, 1, 2], 0⟩,
    ⟨some 17, none, .ld false 1 .cp (.k 16), [0, 1, 2], 0⟩,
    ⟨some 18, none, .bin .shr (.k 17) (.c (.i .u64 7)), [0, 1, 2], 0⟩,
    ⟨some 19, none, .bin .xor (.k 14) (.k 18), [], 0⟩,
    ⟨some 20, none, .nc (.t 12), [], 0⟩,
    ⟨none, none, .st 1 (.k 20) (.k 19), [], 0⟩] true [0] [])
  (.seq (.reg [] [⟨some 21, none, .mv (.t 0), [], 0⟩,
    ⟨some 22, none, .nc (.t 21), [], 0⟩,
    ⟨some 23, none, .ld false 1 .cp (.k 22), [], 0⟩,
    ⟨some 24, none, .mv (.t 0), [0, 1, 2], 0⟩,
    ⟨some 25, none, .nc (.k 24), [0, 1, 2], 0⟩,
    ⟨some 26, none, .ld false 1 .cp (.k 25), [0, 1, 2], 0⟩,
    ⟨some 27, none, .bin .shl (.k 26) (.c (.i .u64 17)), [0, 1, 2], 0⟩,
    ⟨some 28, none, .bin .xor (.k 23) (.k 27), [], 0⟩,
    ⟨some 29, none, .nc (.t 21), [], 0⟩,
    ⟨none, none, .st 1 (.k 29) (.k 28), [], 0⟩] true [0] [])
  (.seq (.reg [] [⟨some 30, none, .mv (.k 0), [], 0⟩,
    ⟨some 31, none, .nc (.k 30), [], 0⟩,
    ⟨some 32, none, .ld false 1 .cp (.k 31), [], 0⟩,
    ⟨some 2, none, .mv (.k 32), [], 0⟩] false [2] [])
  .ret)))))⟩

def F_slices_medianAdjacentCmpFunc_cell_Cell : F := ⟨4, [.inl 8],
  (.seq (.reg [.zz 0] [⟨some 8, none, .mv (.c (.i .i64 0)), [], 0⟩] false [0, 1, 2, 3] [])
  (.seq (.reg [] [⟨some 9, none, .mv (.k 0), [], 2⟩,
    ⟨some 10, none, .mv (.t 1), [], 0⟩,
    ⟨some 11, none, .bin .sub (.k 10) (.c (.i .i64 1)), [], 0⟩,
    ⟨some 12, none, .mv (.t 1), [], 0⟩,
    ⟨some 13, none, .mv (.k 1), [], 0⟩,
    ⟨some 14, none, .bin .add (.k 13) (.c (.i .i64 1)), [], 0⟩,
    ⟨some 15, none, .mv (.k 2), [], 0⟩,
    ⟨some 16, none, .mv (.k 3), [], 0⟩,
    ⟨some 17, none, .call n_slices_medianCmpFunc_cell_Cell [.k 9, .k 11, .k 12, .k 14, .k 15, .k 16], [], 0⟩,
    ⟨some 8, none, .mv (.k 17), [], 0⟩] false [8] [])
  .ret))⟩

def F_slices_medianCmpFunc_cell_Cell : F := ⟨6, [.inl 12],
  (.seq (.reg [.zz 0] [⟨some 12, none, .mv (.c (.i .i64 0)), [], 0⟩] false [0, 1, 2, 3, 4, 5] [])
  (.seq (.reg [] [⟨some 14, none, .mv (.t 0), [], 2⟩,
    ⟨some 15, none, .mv (.k 1), [], 0⟩,
    ⟨some 16, none, .mv (.k 2), [], 0⟩,
    ⟨some 17, none, .mv (.t 4), [], 0⟩,
    ⟨some 18, none, .mv (.t 5), [], 0⟩,
    ⟨some 19, none, .call n_slices_order2CmpFunc_cell_Cell [.k 14, .k 15, .k 16, .k 17, .k 18], [], 0⟩,
    ⟨some 13, none, .mv (.k 19), [], 0⟩,
    ⟨some 20, none, .ex false 0 13, [], 0⟩,
    ⟨some 21, none, .ex false 1 13, [], 0⟩,
    ⟨some 1, none, .mv (.k 20), [], 0⟩,
    ⟨some 2, none, .mv (.k 21), [], 0⟩] false [0, 1, 2, 3, 4, 5] [])
  (.seq (.reg [] [⟨some 23, none, .mv (.t 0), [], 2⟩,
    ⟨some 24, none, .mv (.k 2), [], 0⟩,
    ⟨some 25, none, .mv (.k 3), [], 0⟩,
    ⟨some 26, none, .mv (.t 4), [], 0⟩,
    ⟨some 27, none, .mv (.t 5), [], 0⟩,
    ⟨some 28, none, .call n_slices_order2CmpFunc_cell_Cell [.k 23, .k 24, .k 25, .k 26, .k 27], [], 0⟩,
    ⟨some 22, none, .mv (.k 28), [], 0⟩,
    ⟨some 29, none, .ex false 0 22, [], 0⟩,
    ⟨some 30, none, .ex false 1 22, [], 0⟩,
    ⟨some 2, none, .mv (.k 29), [], 0⟩,
    ⟨some 3, none, .mv (.k 30), [], 0⟩] false [0, 1, 2, 4, 5] [])
  (.seq (.reg [] [⟨some 32, none, .mv (.k 0), [], 2⟩,
    ⟨some 33, none, .mv (.k 1), [], 0⟩,
    ⟨some 34, none, .mv (.k 2), [], 0⟩,
    ⟨some 35, none, .mv (.k 4), [], 0⟩,
    ⟨some 36, none, .mv (.k 5), [], 0⟩,
    ⟨some 37, none, .call n_slices_order2CmpFunc_cell_Cell [.k 32, .k 33, .k 34, .k 35, .k 36], [], 0⟩,
    ⟨some 31, none, .mv (.k 37), [], 0⟩,
    ⟨some 38, none, .ex false 0 31, [], 0⟩,
    ⟨some 39, none, .ex false 1 31, [], 0⟩,
    ⟨some 1, none, .mv (.k 38), [], 0⟩,
    ⟨some 2, none, .mv (.k 39), [], 0⟩] false [2] [])
  (.seq (.reg [] [⟨some 40, none, .mv (.k 2), [], 0⟩,
    ⟨some 12, none, .mv (.k 40), [], 0⟩] false [12] [])
  .ret)))))⟩

def F_wire_every : F := ⟨2, [.inl 4],
  (.seq (.reg [.zz 0] [⟨some 4, none, .mv (.c (.l .o 1 [])), [], 0⟩] false [0, 1] [])
  (.seq (.reg [] [⟨some 5, none, .mv (.c (.l .o 1 [])), [], 0⟩] false [0, 1, 5] [])
  (.seq (.seq (.reg [] [⟨some 7, none, .mv (.k 1), [], 0⟩,
    ⟨some 6, none, .mv (.k 7), [], 0⟩] false [0, 5, 6] [])
  (.blk 0 (.loop (.seq (.seq (.reg [] [⟨some 8, none, .mv (.t 6), [], 0⟩,
    ⟨some 9, none, .mv (.t 0), [], 0⟩,
    ⟨some 10, none, .len false (.k 9), [], 0⟩,
    ⟨some 11, none, .bin .lss (.k 8) (.k 10), [], 0⟩] false [0, 5, 6, 11] [])
  (.cond 11 .skip
  (.exit 0)))
  (.seq (.blk 1 (.reg [] [⟨some 14, none, .mv (.k 5), [], 0⟩,
    ⟨some 15, none, .mv (.t 0), [], 0⟩,
    ⟨some 16, none, .mv (.t 6), [], 0⟩,
    ⟨some 17, none, .ia 1 none (.k 15) (.k 16), [], 0⟩,
    ⟨some 18, none, .ld false 1 .cp (.k 17), [], 0⟩,
    ⟨some 19, none, .bs 1 1 (.i .i64 0) [(0, .k 18)], [], 0⟩,
    ⟨some 20, none, .app 1 8 (.k 14) (.k 19), [], 1⟩,
    ⟨some 5, none, .mv (.k 20), [], 0⟩] false [0, 5, 6] []))
  (.reg [] [⟨some 12, none, .mv (.k 6), [], 0⟩,
    ⟨some 13, none, .bin .add (.k 12) (.c (.i .i64 2)), [], 0⟩,
    ⟨some 6, none, .mv (.k 13), [], 0⟩] false [0, 5, 6] []))))))
  (.seq (.reg [] [⟨some 21, none, .mv (.k 5), [], 0⟩,
    ⟨some 4, none, .mv (.k 21), [], 0⟩] false [4] [])
  .ret))))⟩

def F_slices_order2CmpFunc_cell_Cell : F := ⟨5, [.inl 10, .inl 11],
  (.seq (.reg [.zz 0] [⟨some 10, none, .mv (.c (.i .i64 0)), [], 0⟩,
    ⟨some 11, none, .mv (.c (.i .i64 0)), [], 0⟩] false [0, 1, 2, 3, 4] [])
  (.seq (.seq (.reg [] [⟨some 12, none, .mv (.k 4), [], 0⟩,
    ⟨some 13, none, .mv (.t 0), [0], 0⟩,
    ⟨some 14, none, .mv (.t 2), [0, 1], 0⟩,
    ⟨some 15, none, .ia 3 none (.k 13) (.k 14), [0], 0⟩,
    ⟨some 16, none, .ld true 3 .cp (.k 15), [0], 0⟩,
    ⟨some 17, none, .mv (.t 0), [0, 1, 2, 3, 4], 0⟩,
    ⟨some 18, none, .mv (.t 1), [0, 1, 2, 3, 4, 5], 0⟩,
    ⟨some 19, none, .ia 3 none (.k 17) (.k 18), [0, 1, 2, 3, 4], 0⟩,
    ⟨some 20, none, .ld true 3 .cp (.k 19), [0, 1, 2, 3, 4], 0⟩,
    ⟨some 21, none, .callv (.k 12) [.k 16, .k 20], [], 0⟩,
    ⟨some 22, none, .bin .lss (.k 21) (.c (.i .i64 0)), [], 0⟩] true [1, 2, 3, 22] [])
  (.cond 22 (.seq (.reg [] [⟨some 23, none, .mv (.k 3), [], 0⟩,
    ⟨some 24, none, .nc (.t 23), [], 0⟩,
    ⟨some 25, none, .ld false 1 .cp (.k 24), [], 0⟩,
    ⟨some 26, none, .bin .add (.k 25) (.c (.i .i64 1)), [], 0⟩,
    ⟨some 27, none, .nc (.k 23), [], 0⟩,
    ⟨none, none, .st 1 (.k 27) (.k 26), [], 0⟩] false [1, 2] [])
  (.seq (.reg [] [⟨some 28, none, .mv (.k 2), [], 0⟩,
    ⟨some 29, none, .mv (.k 1), [], 0⟩,
    ⟨some 10, none, .mv (.k 28), [], 0⟩,
    ⟨some 11, none, .mv (.k 29), [], 0⟩] false [10, 11] [])
  .ret))
  .skip))
  (.seq (.reg [] [⟨some 30, none, .mv (.k 1), [], 0⟩,
    ⟨some 31, none, .mv (.k 2), [], 0⟩,
    ⟨some 10, none, .mv (.k 30), [], 0⟩,
    ⟨some 11, none, .mv (.k 31), [], 0⟩] false [10, 11] [])
  .ret)))⟩

def F_pile_items_Len : F := ⟨1, [.inl 2],
  (.seq (.reg [.zz 0] [⟨some 2, none, .mv (.c (.i .i64 0)), [], 0⟩] false [0] [])
  (.seq (.reg [] [⟨some 3, none, .mv (.k 0), [], 0⟩,
    ⟨some 4, none, .len false (.k 3), [], 0⟩,
    ⟨some 2, none, .mv (.k 4), [], 0⟩] false [2] [])
  .ret))⟩

def F_pile_items_Less : F := ⟨3, [.inl 6],
  (.seq (.reg [.zz 0] [⟨some 6, none, .mv (.c (.b false)), [], 0⟩] false [0, 1, 2] [])
  (.seq (.reg [] [⟨some 7, none, .mv (.t 0), [], 0⟩,
    ⟨some 8, none, .mv (.k 1), [0], 0⟩,
    ⟨some 9, none, .ia 2 none (.k 7) (.k 8), [], 0⟩,
    ⟨some 10, none, .ld true 2 .cp (.k 9), [], 0⟩,
    ⟨some 11, none, .mv (.t 0), [0, 1, 2, 3], 0⟩,
    ⟨some 12, none, .mv (.k 2), [0, 1, 2, 3, 4], 0⟩,
    ⟨some 13, none, .ia 2 none (.k 11) (.k 12), [0, 1, 2, 3], 0⟩,
    ⟨some 14, none, .ld true 2 .cp (.k 13), [0, 1, 2, 3], 0⟩,
    ⟨some 15, none, .call n_pile_Item_Cmp [.k 10, .k 14], [], 0⟩,
    ⟨some 16, none, .bin .lss (.k 15) (.c (.i .i64 0)), [], 0⟩,
    ⟨some 6, none, .mv (.k 16), [], 0⟩] true [6] [])
  .ret))⟩

def F_pile_items_Swap : F := ⟨3, [],
  (.reg [.thaw 0] [⟨some 6, none, .mv (.t 0), [], 0⟩,
    ⟨some 7, none, .mv (.t 1), [0], 0⟩,
    ⟨some 8, none, .mv (.t 0), [0, 1], 0⟩,
    ⟨some 9, none, .mv (.t 2), [0, 1, 2], 0⟩,
    ⟨some 10, none, .mv (.t 0), [0, 1, 2, 3], 0⟩,
    ⟨some 11, none, .mv (.t 2), [0, 1, 2, 3, 4], 0⟩,
    ⟨some 12, none, .ia 2 none (.k 10) (.k 11), [0, 1, 2, 3], 0⟩,
    ⟨some 13, none, .ld true 2 .cp (.k 12), [0, 1, 2, 3], 0⟩,
    ⟨some 14, none, .mv (.t 0), [0, 1, 2, 3, 4, 5, 6, 7], 0⟩,
    ⟨some 15, none, .mv (.t 1), [0, 1, 2, 3, 4, 5, 6, 7, 8], 0⟩,
    ⟨some 16, none, .ia 2 none (.k 14) (.k 15), [0, 1, 2, 3, 4, 5, 6, 7], 0⟩,
    ⟨some 17, none, .ld true 2 .cp (.k 16), [0, 1, 2, 3, 4, 5, 6, 7], 0⟩,
    ⟨some 18, none, .ia 2 none (.k 6) (.k 7), [2, 3], 0⟩,
    ⟨none, none, .st 2 (.k 18) (.k 13), [2, 3], 0⟩,
    ⟨some 19, none, .ia 2 none (.k 8) (.k 9), [], 0⟩,
    ⟨none, none, .st 2 (.k 19) (.k 17), [], 0⟩] true [] [])⟩

def F_pile_items_Pop : F := ⟨1, [.inl 2],
  (.seq (.reg [] [⟨some 2, none, .mv (.c (.nili)), [], 0⟩] false [0] [])
  (.seq (.reg [] [⟨some 5, none, .mv (.t 0), [], 0⟩,
    ⟨some 6, none, .nc (.k 5), [], 0⟩,
    ⟨some 7, none, .lda 1 (.k 6), [], 1⟩,
    ⟨some 8, none, .len false (.k 7), [], 0⟩,
    ⟨some 9, none, .bin .sub (.k 8) (.c (.i .i64 1)), [], 0⟩,
    ⟨some 3, none, .mv (.k 9), [], 0⟩] false [0, 3] [])
  (.seq (.reg [] [⟨some 10, none, .mv (.t 0), [], 0⟩,
    ⟨some 11, none, .nc (.k 10), [], 0⟩,
    ⟨some 12, none, .lda 1 (.k 11), [], 1⟩,
    ⟨some 13, none, .mv (.t 3), [], 0⟩,
    ⟨some 14, none, .ia 2 none (.k 12) (.k 13), [], 0⟩,
    ⟨some 15, none, .ld true 2 .cp (.k 14), [], 0⟩,
    ⟨some 4, none, .al ([.f .f64 0, .i .i64 0]), [], 0⟩,
    ⟨none, none, .st 2 (.t 4) (.k 15), [], 0⟩] false [0, 3, 4] [4])
  (.seq (.reg [] [⟨some 16, none, .mv (.t 0), [], 0⟩,
    ⟨some 17, none, .mv (.k 0), [], 0⟩,
    ⟨some 18, none, .nc (.k 17), [], 0⟩,
    ⟨some 19, none, .ld false 1 .tk (.k 18), [], 0⟩,
    ⟨some 20, none, .mv (.k 3), [], 0⟩,
    ⟨some 21, none, .sl 2 (.k 19) none (some (.k 20)) none, [], 0⟩,
    ⟨some 22, none, .nc (.k 16), [], 0⟩,
    ⟨none, none, .st 1 (.k 22) (.k 21), [], 0⟩] false [4] [4])
  (.seq (.reg [] [⟨some 23, none, .ld true 2 .cp (.k 4), [], 0⟩,
    ⟨some 24, none, .mi t_pile_Item (.k 23), [], 0⟩,
    ⟨some 2, none, .mv (.k 24), [], 0⟩] false [2] [])
  .ret)))))⟩

def F_pile_items_Len_q : F := ⟨1, [.inl 2],
  (.seq (.reg [] [⟨some 2, none, .mv (.c (.i .i64 0)), [], 0⟩] false [0] [])
  (.seq (.reg [] [⟨some 3, none, .mv (.k 0), [], 0⟩,
    ⟨some 4, none, .len false (.k 3), [], 0⟩,
    ⟨some 2, none, .mv (.k 4), [], 0⟩] false [2] [])
  .ret))⟩

def F_pile_items_Less_q : F := ⟨3, [.inl 6],
  (.seq (.reg [] [⟨some 6, none, .mv (.c (.b false)), [], 0⟩] false [0, 1, 2] [])
  (.seq (.reg [] [⟨some 7, none, .mv (.t 0), [], 0⟩,
    ⟨some 8, none, .mv (.k 1), [0], 0⟩,
    ⟨some 9, none, .ia 2 none (.k 7) (.k 8), [], 0⟩,
    ⟨some 10, none, .ld true 2 .cp (.k 9), [], 0⟩,
    ⟨some 11, none, .mv (.t 0), [0, 1, 2, 3], 0⟩,
    ⟨some 12, none, .mv (.k 2), [0, 1, 2, 3, 4], 0⟩,
    ⟨some 13, none, .ia 2 none (.k 11) (.k 12), [0, 1, 2, 3], 0⟩,
    ⟨some 14, none, .ld true 2 .cp (.k 13), [0, 1, 2, 3], 0⟩,
    ⟨some 15, none, .call n_pile_Item_Cmp [.k 10, .k 14], [], 0⟩,
    ⟨some 16, none, .bin .lss (.k 15) (.c (.i .i64 0)), [], 0⟩,
    ⟨some 6, none, .mv (.k 16), [], 0⟩] true [6] [])
  .ret))⟩

def F_pile_items_Swap_q : F := ⟨3, [],
  (.reg [] [⟨some 6, none, .mv (.t 0), [], 0⟩,
    ⟨some 7, none, .mv (.t 1), [0], 0⟩,
    ⟨some 8, none, .mv (.t 0), [0, 1], 0⟩,
    ⟨some 9, none, .mv (.t 2), [0, 1, 2], 0⟩,
    ⟨some 10, none, .mv (.t 0), [0, 1, 2, 3], 0⟩,
    ⟨some 11, none, .mv (.t 2), [0, 1, 2, 3, 4], 0⟩,
    ⟨some 12, none, .ia 2 none (.k 10) (.k 11), [0, 1, 2, 3], 0⟩,
    ⟨some 13, none, .ld true 2 .cp (.k 12), [0, 1, 2, 3], 0⟩,
    ⟨some 14, none, .mv (.t 0), [0, 1, 2, 3, 4, 5, 6, 7], 0⟩,
    ⟨some 15, none, .mv (.t 1), [0, 1, 2, 3, 4, 5, 6, 7, 8], 0⟩,
    ⟨some 16, none, .ia 2 none (.k 14) (.k 15), [0, 1, 2, 3, 4, 5, 6, 7], 0⟩,
    ⟨some 17, none, .ld true 2 .cp (.k 16), [0, 1, 2, 3, 4, 5, 6, 7], 0⟩,
    ⟨some 18, none, .ia 2 none (.k 6) (.k 7), [2, 3], 0⟩,
    ⟨none, none, .st 2 (.k 18) (.k 13), [2, 3], 0⟩,
    ⟨some 19, none, .ia 2 none (.k 8) (.k 9), [], 0⟩,
    ⟨none, none, .st 2 (.k 19) (.k 17), [], 0⟩] true [] [])⟩

end Go.AM

/- The table of the functions. -/
namespace Go.AM
set_option linter.unusedVariables false
def tab : List (Nat × F) := [(n_c_law18_SpreadDeals, F_c_law18_SpreadDeals), (n_c_law18_SpreadLays, F_c_law18_SpreadLays), (n_c_law18_SpreadTo, F_c_law18_SpreadTo), (n_c_law18_SpreadKept, F_c_law18_SpreadKept), (n_c_law12_ValueAfter, F_c_law12_ValueAfter), (n_c_law12_ValueKinds, F_c_law12_ValueKinds), (n_c_law18_awake, F_c_law18_awake), (n_c_law04_Own, F_c_law04_Own), (n_spread_Deal, F_spread_Deal), (n_pile_Item_Cmp, F_pile_Item_Cmp), (n_c_law17_Make, F_c_law17_Make), (n_spread_Lay, F_spread_Lay), (n_c_ref18_Lay, F_c_ref18_Lay), (n_c_law17_Told, F_c_law17_Told), (n_c_law06_Run_Same, F_c_law06_Run_Same), (n_spread_To, F_spread_To), (n_c_ref18_To, F_c_ref18_To), (n_c_law18_Is, F_c_law18_Is), (n_image_Image_Same, F_image_Image_Same), (n_image_Image_Check, F_image_Image_Check), (n_image_Image_Value, F_image_Image_Value), (n_spread_Engine, F_spread_Engine), (n_value_Value_Same, F_value_Value_Same), (n_engine_Engine_Value, F_engine_Engine_Value), (n_engine_Engine_Param, F_engine_Engine_Param), (n_engine_Engine_Kind, F_engine_Engine_Kind), (n_engine_Engine_Busy, F_engine_Engine_Busy), (n_c_law12_awake, F_c_law12_awake), (n_c_law12_Kind, F_c_law12_Kind), (n_pile_Item_Canon, F_pile_Item_Canon), (n_pile_Sorted, F_pile_Sorted), (n_c_law12_Told, F_c_law12_Told), (n_c_law06_Told, F_c_law06_Told), (n_value_Value_After, F_value_Value_After), (n_c_law06_Own, F_c_law06_Own), (n_c_ref12_After, F_c_ref12_After), (n_c_law12_told, F_c_law12_told), (n_c_law12_Is, F_c_law12_Is), (n_value_Of, F_value_Of), (n_cell_New, F_cell_New), (n_c_ref06_Legal, F_c_ref06_Legal), (n_c_ref06_Check, F_c_ref06_Check), (n_c_ref12_Same, F_c_ref12_Same), (n_c_law03_F, F_c_law03_F), (n_real_Cmp, F_real_Cmp), (n_c_law17_sorted, F_c_law17_sorted), (n_image_Room, F_image_Room), (n_cell_Memory_Force, F_cell_Memory_Force), (n_spread_fifo, F_spread_fifo), (n_c_ref17_Check, F_c_ref17_Check), (n_c_ref18_room, F_c_ref18_room), (n_c_ref18_number, F_c_ref18_number), (n_c_ref18_pass, F_c_ref18_pass), (n_c_ref10_Count, F_c_ref10_Count), (n_c_ref18_even, F_c_ref18_even), (n_c_law04_Bits, F_c_law04_Bits), (n_cell_Memory_Clock, F_cell_Memory_Clock), (n_cell_Memory_Len, F_cell_Memory_Len), (n_c_ref05_Len, F_c_ref05_Len), (n_c_ref05_Read, F_c_ref05_Read), (n_cell_Memory_Read, F_cell_Memory_Read), (n_c_law05_Is, F_c_law05_Is), (n_op_Legal, F_op_Legal), (n_wire_Even, F_wire_Even), (n_c_ref17_Value, F_c_ref17_Value), (n_c_law04_Are, F_c_law04_Are), (n_c_ref17_Same, F_c_ref17_Same), (n_slices_Equal_int64_int64, F_slices_Equal_int64_int64), (n_slices_EqualFunc_pile_Item_pile_Item_pile_Item_pile_Item, F_slices_EqualFunc_pile_Item_pile_Item_pile_Item_pile_Item), (n_image_Image_Same_1, F_image_Image_Same_1), (n_slices_EqualFunc_pile_Item_pile_Item_pile_Item_pile_Item_1, F_slices_EqualFunc_pile_Item_pile_Item_pile_Item_pile_Item_1), (n_image_Image_Same_1_1, F_image_Image_Same_1_1), (n_image_Shape, F_image_Shape), (n_image_order, F_image_order), (n_engine_With, F_engine_With), (n_value_Value_Same_1, F_value_Value_Same_1), (n_real_Canon, F_real_Canon), (n_pile_New, F_pile_New), (n_pile_Pile_All, F_pile_Pile_All), (n_c_ref04_Make, F_c_ref04_Make), (n_op_Op_Check, F_op_Op_Check), (n_slices_Clone_pile_Item_pile_Item, F_slices_Clone_pile_Item_pile_Item), (n_value_Value_without, F_value_Value_without), (n_c_ref06_Of, F_c_ref06_Of), (n_c_ref06_Into, F_c_ref06_Into), (n_c_ref04_With, F_c_ref04_With), (n_c_ref12_same, F_c_ref12_same), (n_c_ref12_Without, F_c_ref12_Without), (n_value_bag, F_value_bag), (n_value_line, F_value_line), (n_value_sum, F_value_sum), (n_net_New, F_net_New), (n_net_Net_Out, F_net_Net_Out), (n_real_Key, F_real_Key), (n_cell_Memory_Write, F_cell_Memory_Write), (n_kfifo_New, F_kfifo_New), (n_kfifo_Queue_Slot, F_kfifo_Queue_Slot), (n_c_ref04_Cmp, F_c_ref04_Cmp), (n_c_ref10_Merge, F_c_ref10_Merge), (n_c_ref03_Bits, F_c_ref03_Bits), (n_cell_Value_Clone, F_cell_Value_Clone), (n_c_law04_Is, F_c_law04_Is), (n_engine_machine, F_engine_machine), (n_container_heap_Init, F_container_heap_Init), (n_pile_Pile_Take, F_pile_Pile_Take), (n_op_Of, F_op_Of), (n_slices_IndexFunc_pile_Item_pile_Item, F_slices_IndexFunc_pile_Item_pile_Item), (n_value_Value_without_1, F_value_Value_without_1), (n_slices_SortFunc_cell_Cell_cell_Cell, F_slices_SortFunc_cell_Cell_cell_Cell), (n_value_line_1, F_value_line_1), (n_wire_Make, F_wire_Make), (n_c_ref03_Cmp, F_c_ref03_Cmp), (n_c_ref10_pick, F_c_ref10_pick), (n_multi_New, F_multi_New), (n_tally_New, F_tally_New), (n_container_heap_down, F_container_heap_down), (n_container_heap_Pop, F_container_heap_Pop), (n_slices_pdqsortCmpFunc_cell_Cell, F_slices_pdqsortCmpFunc_cell_Cell), (n_wire_Plan_count, F_wire_Plan_count), (n_c_ref03_Key, F_c_ref03_Key), (n_slices_insertionSortCmpFunc_cell_Cell, F_slices_insertionSortCmpFunc_cell_Cell), (n_slices_heapSortCmpFunc_cell_Cell, F_slices_heapSortCmpFunc_cell_Cell), (n_slices_breakPatternsCmpFunc_cell_Cell, F_slices_breakPatternsCmpFunc_cell_Cell), (n_slices_choosePivotCmpFunc_cell_Cell, F_slices_choosePivotCmpFunc_cell_Cell), (n_slices_reverseRangeCmpFunc_cell_Cell, F_slices_reverseRangeCmpFunc_cell_Cell), (n_slices_partialInsertionSortCmpFunc_cell_Cell, F_slices_partialInsertionSortCmpFunc_cell_Cell), (n_slices_partitionEqualCmpFunc_cell_Cell, F_slices_partitionEqualCmpFunc_cell_Cell), (n_slices_partitionCmpFunc_cell_Cell, F_slices_partitionCmpFunc_cell_Cell), (n_math_bits_Len32, F_math_bits_Len32), (n_math_bits_Len64, F_math_bits_Len64), (n_wire_Plan_merge, F_wire_Plan_merge), (n_slices_siftDownCmpFunc_cell_Cell, F_slices_siftDownCmpFunc_cell_Cell), (n_slices_nextPowerOfTwo, F_slices_nextPowerOfTwo), (n_slices_xorshift_Next, F_slices_xorshift_Next), (n_slices_medianAdjacentCmpFunc_cell_Cell, F_slices_medianAdjacentCmpFunc_cell_Cell), (n_slices_medianCmpFunc_cell_Cell, F_slices_medianCmpFunc_cell_Cell), (n_wire_every, F_wire_every), (n_slices_order2CmpFunc_cell_Cell, F_slices_order2CmpFunc_cell_Cell), (n_pile_items_Len, F_pile_items_Len), (n_pile_items_Less, F_pile_items_Less), (n_pile_items_Swap, F_pile_items_Swap), (n_pile_items_Pop, F_pile_items_Pop), (n_pile_items_Len_q, F_pile_items_Len_q), (n_pile_items_Less_q, F_pile_items_Less_q), (n_pile_items_Swap_q, F_pile_items_Swap_q)]
def methL : List (TypeId × String × FuncId) := [(t_pile_Item, "Canon", n_pile_Item_Canon), (t_pile_Item, "Cmp", n_pile_Item_Cmp), (t_net_Net, "Out", n_net_Net_Out), (t_kfifo_Queue, "Slot", n_kfifo_Queue_Slot), (t_pile_items_u, "Len", n_pile_items_Len_q), (t_pile_items_u, "Less", n_pile_items_Less_q), (t_pile_items_u, "Pop", n_pile_items_Pop), (t_pile_items_u, "Swap", n_pile_items_Swap_q)]
def EE : En := ⟨fun f => look f tab, some 106, some 97, fun t nm => (methL.find? fun p => p.1 == t && p.2.1 == nm).map (·.2.2)⟩
theorem e_c_law18_SpreadDeals : EE.fn n_c_law18_SpreadDeals = some F_c_law18_SpreadDeals := by kernel_rfl
theorem e_c_law18_SpreadLays : EE.fn n_c_law18_SpreadLays = some F_c_law18_SpreadLays := by kernel_rfl
theorem e_c_law18_SpreadTo : EE.fn n_c_law18_SpreadTo = some F_c_law18_SpreadTo := by kernel_rfl
theorem e_c_law18_SpreadKept : EE.fn n_c_law18_SpreadKept = some F_c_law18_SpreadKept := by kernel_rfl
theorem e_c_law12_ValueAfter : EE.fn n_c_law12_ValueAfter = some F_c_law12_ValueAfter := by kernel_rfl
theorem e_c_law12_ValueKinds : EE.fn n_c_law12_ValueKinds = some F_c_law12_ValueKinds := by kernel_rfl
theorem e_c_law18_awake : EE.fn n_c_law18_awake = some F_c_law18_awake := by kernel_rfl
theorem e_c_law04_Own : EE.fn n_c_law04_Own = some F_c_law04_Own := by kernel_rfl
theorem e_spread_Deal : EE.fn n_spread_Deal = some F_spread_Deal := by kernel_rfl
theorem e_pile_Item_Cmp : EE.fn n_pile_Item_Cmp = some F_pile_Item_Cmp := by kernel_rfl
theorem e_c_law17_Make : EE.fn n_c_law17_Make = some F_c_law17_Make := by kernel_rfl
theorem e_spread_Lay : EE.fn n_spread_Lay = some F_spread_Lay := by kernel_rfl
theorem e_c_ref18_Lay : EE.fn n_c_ref18_Lay = some F_c_ref18_Lay := by kernel_rfl
theorem e_c_law17_Told : EE.fn n_c_law17_Told = some F_c_law17_Told := by kernel_rfl
theorem e_c_law06_Run_Same : EE.fn n_c_law06_Run_Same = some F_c_law06_Run_Same := by kernel_rfl
theorem e_spread_To : EE.fn n_spread_To = some F_spread_To := by kernel_rfl
theorem e_c_ref18_To : EE.fn n_c_ref18_To = some F_c_ref18_To := by kernel_rfl
theorem e_c_law18_Is : EE.fn n_c_law18_Is = some F_c_law18_Is := by kernel_rfl
theorem e_image_Image_Same : EE.fn n_image_Image_Same = some F_image_Image_Same := by kernel_rfl
theorem e_image_Image_Check : EE.fn n_image_Image_Check = some F_image_Image_Check := by kernel_rfl
theorem e_image_Image_Value : EE.fn n_image_Image_Value = some F_image_Image_Value := by kernel_rfl
theorem e_spread_Engine : EE.fn n_spread_Engine = some F_spread_Engine := by kernel_rfl
theorem e_value_Value_Same : EE.fn n_value_Value_Same = some F_value_Value_Same := by kernel_rfl
theorem e_engine_Engine_Value : EE.fn n_engine_Engine_Value = some F_engine_Engine_Value := by kernel_rfl
theorem e_engine_Engine_Param : EE.fn n_engine_Engine_Param = some F_engine_Engine_Param := by kernel_rfl
theorem e_engine_Engine_Kind : EE.fn n_engine_Engine_Kind = some F_engine_Engine_Kind := by kernel_rfl
theorem e_engine_Engine_Busy : EE.fn n_engine_Engine_Busy = some F_engine_Engine_Busy := by kernel_rfl
theorem e_c_law12_awake : EE.fn n_c_law12_awake = some F_c_law12_awake := by kernel_rfl
theorem e_c_law12_Kind : EE.fn n_c_law12_Kind = some F_c_law12_Kind := by kernel_rfl
theorem e_pile_Item_Canon : EE.fn n_pile_Item_Canon = some F_pile_Item_Canon := by kernel_rfl
theorem e_pile_Sorted : EE.fn n_pile_Sorted = some F_pile_Sorted := by kernel_rfl
theorem e_c_law12_Told : EE.fn n_c_law12_Told = some F_c_law12_Told := by kernel_rfl
theorem e_c_law06_Told : EE.fn n_c_law06_Told = some F_c_law06_Told := by kernel_rfl
theorem e_value_Value_After : EE.fn n_value_Value_After = some F_value_Value_After := by kernel_rfl
theorem e_c_law06_Own : EE.fn n_c_law06_Own = some F_c_law06_Own := by kernel_rfl
theorem e_c_ref12_After : EE.fn n_c_ref12_After = some F_c_ref12_After := by kernel_rfl
theorem e_c_law12_told : EE.fn n_c_law12_told = some F_c_law12_told := by kernel_rfl
theorem e_c_law12_Is : EE.fn n_c_law12_Is = some F_c_law12_Is := by kernel_rfl
theorem e_value_Of : EE.fn n_value_Of = some F_value_Of := by kernel_rfl
theorem e_cell_New : EE.fn n_cell_New = some F_cell_New := by kernel_rfl
theorem e_c_ref06_Legal : EE.fn n_c_ref06_Legal = some F_c_ref06_Legal := by kernel_rfl
theorem e_c_ref06_Check : EE.fn n_c_ref06_Check = some F_c_ref06_Check := by kernel_rfl
theorem e_c_ref12_Same : EE.fn n_c_ref12_Same = some F_c_ref12_Same := by kernel_rfl
theorem e_c_law03_F : EE.fn n_c_law03_F = some F_c_law03_F := by kernel_rfl
theorem e_real_Cmp : EE.fn n_real_Cmp = some F_real_Cmp := by kernel_rfl
theorem e_c_law17_sorted : EE.fn n_c_law17_sorted = some F_c_law17_sorted := by kernel_rfl
theorem e_image_Room : EE.fn n_image_Room = some F_image_Room := by kernel_rfl
theorem e_cell_Memory_Force : EE.fn n_cell_Memory_Force = some F_cell_Memory_Force := by kernel_rfl
theorem e_spread_fifo : EE.fn n_spread_fifo = some F_spread_fifo := by kernel_rfl
theorem e_c_ref17_Check : EE.fn n_c_ref17_Check = some F_c_ref17_Check := by kernel_rfl
theorem e_c_ref18_room : EE.fn n_c_ref18_room = some F_c_ref18_room := by kernel_rfl
theorem e_c_ref18_number : EE.fn n_c_ref18_number = some F_c_ref18_number := by kernel_rfl
theorem e_c_ref18_pass : EE.fn n_c_ref18_pass = some F_c_ref18_pass := by kernel_rfl
theorem e_c_ref10_Count : EE.fn n_c_ref10_Count = some F_c_ref10_Count := by kernel_rfl
theorem e_c_ref18_even : EE.fn n_c_ref18_even = some F_c_ref18_even := by kernel_rfl
theorem e_c_law04_Bits : EE.fn n_c_law04_Bits = some F_c_law04_Bits := by kernel_rfl
theorem e_cell_Memory_Clock : EE.fn n_cell_Memory_Clock = some F_cell_Memory_Clock := by kernel_rfl
theorem e_cell_Memory_Len : EE.fn n_cell_Memory_Len = some F_cell_Memory_Len := by kernel_rfl
theorem e_c_ref05_Len : EE.fn n_c_ref05_Len = some F_c_ref05_Len := by kernel_rfl
theorem e_c_ref05_Read : EE.fn n_c_ref05_Read = some F_c_ref05_Read := by kernel_rfl
theorem e_cell_Memory_Read : EE.fn n_cell_Memory_Read = some F_cell_Memory_Read := by kernel_rfl
theorem e_c_law05_Is : EE.fn n_c_law05_Is = some F_c_law05_Is := by kernel_rfl
theorem e_op_Legal : EE.fn n_op_Legal = some F_op_Legal := by kernel_rfl
theorem e_wire_Even : EE.fn n_wire_Even = some F_wire_Even := by kernel_rfl
theorem e_c_ref17_Value : EE.fn n_c_ref17_Value = some F_c_ref17_Value := by kernel_rfl
theorem e_c_law04_Are : EE.fn n_c_law04_Are = some F_c_law04_Are := by kernel_rfl
theorem e_c_ref17_Same : EE.fn n_c_ref17_Same = some F_c_ref17_Same := by kernel_rfl
theorem e_slices_Equal_int64_int64 : EE.fn n_slices_Equal_int64_int64 = some F_slices_Equal_int64_int64 := by kernel_rfl
theorem e_slices_EqualFunc_pile_Item_pile_Item_pile_Item_pile_Item : EE.fn n_slices_EqualFunc_pile_Item_pile_Item_pile_Item_pile_Item = some F_slices_EqualFunc_pile_Item_pile_Item_pile_Item_pile_Item := by kernel_rfl
theorem e_image_Image_Same_1 : EE.fn n_image_Image_Same_1 = some F_image_Image_Same_1 := by kernel_rfl
theorem e_slices_EqualFunc_pile_Item_pile_Item_pile_Item_pile_Item_1 : EE.fn n_slices_EqualFunc_pile_Item_pile_Item_pile_Item_pile_Item_1 = some F_slices_EqualFunc_pile_Item_pile_Item_pile_Item_pile_Item_1 := by kernel_rfl
theorem e_image_Image_Same_1_1 : EE.fn n_image_Image_Same_1_1 = some F_image_Image_Same_1_1 := by kernel_rfl
theorem e_image_Shape : EE.fn n_image_Shape = some F_image_Shape := by kernel_rfl
theorem e_image_order : EE.fn n_image_order = some F_image_order := by kernel_rfl
theorem e_engine_With : EE.fn n_engine_With = some F_engine_With := by kernel_rfl
theorem e_value_Value_Same_1 : EE.fn n_value_Value_Same_1 = some F_value_Value_Same_1 := by kernel_rfl
theorem e_real_Canon : EE.fn n_real_Canon = some F_real_Canon := by kernel_rfl
theorem e_pile_New : EE.fn n_pile_New = some F_pile_New := by kernel_rfl
theorem e_pile_Pile_All : EE.fn n_pile_Pile_All = some F_pile_Pile_All := by kernel_rfl
theorem e_c_ref04_Make : EE.fn n_c_ref04_Make = some F_c_ref04_Make := by kernel_rfl
theorem e_op_Op_Check : EE.fn n_op_Op_Check = some F_op_Op_Check := by kernel_rfl
theorem e_slices_Clone_pile_Item_pile_Item : EE.fn n_slices_Clone_pile_Item_pile_Item = some F_slices_Clone_pile_Item_pile_Item := by kernel_rfl
theorem e_value_Value_without : EE.fn n_value_Value_without = some F_value_Value_without := by kernel_rfl
theorem e_c_ref06_Of : EE.fn n_c_ref06_Of = some F_c_ref06_Of := by kernel_rfl
theorem e_c_ref06_Into : EE.fn n_c_ref06_Into = some F_c_ref06_Into := by kernel_rfl
theorem e_c_ref04_With : EE.fn n_c_ref04_With = some F_c_ref04_With := by kernel_rfl
theorem e_c_ref12_same : EE.fn n_c_ref12_same = some F_c_ref12_same := by kernel_rfl
theorem e_c_ref12_Without : EE.fn n_c_ref12_Without = some F_c_ref12_Without := by kernel_rfl
theorem e_value_bag : EE.fn n_value_bag = some F_value_bag := by kernel_rfl
theorem e_value_line : EE.fn n_value_line = some F_value_line := by kernel_rfl
theorem e_value_sum : EE.fn n_value_sum = some F_value_sum := by kernel_rfl
theorem e_net_New : EE.fn n_net_New = some F_net_New := by kernel_rfl
theorem e_net_Net_Out : EE.fn n_net_Net_Out = some F_net_Net_Out := by kernel_rfl
theorem e_real_Key : EE.fn n_real_Key = some F_real_Key := by kernel_rfl
theorem e_cell_Memory_Write : EE.fn n_cell_Memory_Write = some F_cell_Memory_Write := by kernel_rfl
theorem e_kfifo_New : EE.fn n_kfifo_New = some F_kfifo_New := by kernel_rfl
theorem e_kfifo_Queue_Slot : EE.fn n_kfifo_Queue_Slot = some F_kfifo_Queue_Slot := by kernel_rfl
theorem e_c_ref04_Cmp : EE.fn n_c_ref04_Cmp = some F_c_ref04_Cmp := by kernel_rfl
theorem e_c_ref10_Merge : EE.fn n_c_ref10_Merge = some F_c_ref10_Merge := by kernel_rfl
theorem e_c_ref03_Bits : EE.fn n_c_ref03_Bits = some F_c_ref03_Bits := by kernel_rfl
theorem e_cell_Value_Clone : EE.fn n_cell_Value_Clone = some F_cell_Value_Clone := by kernel_rfl
theorem e_c_law04_Is : EE.fn n_c_law04_Is = some F_c_law04_Is := by kernel_rfl
theorem e_engine_machine : EE.fn n_engine_machine = some F_engine_machine := by kernel_rfl
theorem e_container_heap_Init : EE.fn n_container_heap_Init = some F_container_heap_Init := by kernel_rfl
theorem e_pile_Pile_Take : EE.fn n_pile_Pile_Take = some F_pile_Pile_Take := by kernel_rfl
theorem e_op_Of : EE.fn n_op_Of = some F_op_Of := by kernel_rfl
theorem e_slices_IndexFunc_pile_Item_pile_Item : EE.fn n_slices_IndexFunc_pile_Item_pile_Item = some F_slices_IndexFunc_pile_Item_pile_Item := by kernel_rfl
theorem e_value_Value_without_1 : EE.fn n_value_Value_without_1 = some F_value_Value_without_1 := by kernel_rfl
theorem e_slices_SortFunc_cell_Cell_cell_Cell : EE.fn n_slices_SortFunc_cell_Cell_cell_Cell = some F_slices_SortFunc_cell_Cell_cell_Cell := by kernel_rfl
theorem e_value_line_1 : EE.fn n_value_line_1 = some F_value_line_1 := by kernel_rfl
theorem e_wire_Make : EE.fn n_wire_Make = some F_wire_Make := by kernel_rfl
theorem e_c_ref03_Cmp : EE.fn n_c_ref03_Cmp = some F_c_ref03_Cmp := by kernel_rfl
theorem e_c_ref10_pick : EE.fn n_c_ref10_pick = some F_c_ref10_pick := by kernel_rfl
theorem e_multi_New : EE.fn n_multi_New = some F_multi_New := by kernel_rfl
theorem e_tally_New : EE.fn n_tally_New = some F_tally_New := by kernel_rfl
theorem e_container_heap_down : EE.fn n_container_heap_down = some F_container_heap_down := by kernel_rfl
theorem e_container_heap_Pop : EE.fn n_container_heap_Pop = some F_container_heap_Pop := by kernel_rfl
theorem e_slices_pdqsortCmpFunc_cell_Cell : EE.fn n_slices_pdqsortCmpFunc_cell_Cell = some F_slices_pdqsortCmpFunc_cell_Cell := by kernel_rfl
theorem e_wire_Plan_count : EE.fn n_wire_Plan_count = some F_wire_Plan_count := by kernel_rfl
theorem e_c_ref03_Key : EE.fn n_c_ref03_Key = some F_c_ref03_Key := by kernel_rfl
theorem e_slices_insertionSortCmpFunc_cell_Cell : EE.fn n_slices_insertionSortCmpFunc_cell_Cell = some F_slices_insertionSortCmpFunc_cell_Cell := by kernel_rfl
theorem e_slices_heapSortCmpFunc_cell_Cell : EE.fn n_slices_heapSortCmpFunc_cell_Cell = some F_slices_heapSortCmpFunc_cell_Cell := by kernel_rfl
theorem e_slices_breakPatternsCmpFunc_cell_Cell : EE.fn n_slices_breakPatternsCmpFunc_cell_Cell = some F_slices_breakPatternsCmpFunc_cell_Cell := by kernel_rfl
theorem e_slices_choosePivotCmpFunc_cell_Cell : EE.fn n_slices_choosePivotCmpFunc_cell_Cell = some F_slices_choosePivotCmpFunc_cell_Cell := by kernel_rfl
theorem e_slices_reverseRangeCmpFunc_cell_Cell : EE.fn n_slices_reverseRangeCmpFunc_cell_Cell = some F_slices_reverseRangeCmpFunc_cell_Cell := by kernel_rfl
theorem e_slices_partialInsertionSortCmpFunc_cell_Cell : EE.fn n_slices_partialInsertionSortCmpFunc_cell_Cell = some F_slices_partialInsertionSortCmpFunc_cell_Cell := by kernel_rfl
theorem e_slices_partitionEqualCmpFunc_cell_Cell : EE.fn n_slices_partitionEqualCmpFunc_cell_Cell = some F_slices_partitionEqualCmpFunc_cell_Cell := by kernel_rfl
theorem e_slices_partitionCmpFunc_cell_Cell : EE.fn n_slices_partitionCmpFunc_cell_Cell = some F_slices_partitionCmpFunc_cell_Cell := by kernel_rfl
theorem e_math_bits_Len32 : EE.fn n_math_bits_Len32 = some F_math_bits_Len32 := by kernel_rfl
theorem e_math_bits_Len64 : EE.fn n_math_bits_Len64 = some F_math_bits_Len64 := by kernel_rfl
theorem e_wire_Plan_merge : EE.fn n_wire_Plan_merge = some F_wire_Plan_merge := by kernel_rfl
theorem e_slices_siftDownCmpFunc_cell_Cell : EE.fn n_slices_siftDownCmpFunc_cell_Cell = some F_slices_siftDownCmpFunc_cell_Cell := by kernel_rfl
theorem e_slices_nextPowerOfTwo : EE.fn n_slices_nextPowerOfTwo = some F_slices_nextPowerOfTwo := by kernel_rfl
theorem e_slices_xorshift_Next : EE.fn n_slices_xorshift_Next = some F_slices_xorshift_Next := by kernel_rfl
theorem e_slices_medianAdjacentCmpFunc_cell_Cell : EE.fn n_slices_medianAdjacentCmpFunc_cell_Cell = some F_slices_medianAdjacentCmpFunc_cell_Cell := by kernel_rfl
theorem e_slices_medianCmpFunc_cell_Cell : EE.fn n_slices_medianCmpFunc_cell_Cell = some F_slices_medianCmpFunc_cell_Cell := by kernel_rfl
theorem e_wire_every : EE.fn n_wire_every = some F_wire_every := by kernel_rfl
theorem e_slices_order2CmpFunc_cell_Cell : EE.fn n_slices_order2CmpFunc_cell_Cell = some F_slices_order2CmpFunc_cell_Cell := by kernel_rfl
theorem e_pile_items_Len : EE.fn n_pile_items_Len = some F_pile_items_Len := by kernel_rfl
theorem e_pile_items_Less : EE.fn n_pile_items_Less = some F_pile_items_Less := by kernel_rfl
theorem e_pile_items_Swap : EE.fn n_pile_items_Swap = some F_pile_items_Swap := by kernel_rfl
theorem e_pile_items_Pop : EE.fn n_pile_items_Pop = some F_pile_items_Pop := by kernel_rfl
theorem e_pile_items_Len_q : EE.fn n_pile_items_Len_q = some F_pile_items_Len_q := by kernel_rfl
theorem e_pile_items_Less_q : EE.fn n_pile_items_Less_q = some F_pile_items_Less_q := by kernel_rfl
theorem e_pile_items_Swap_q : EE.fn n_pile_items_Swap_q = some F_pile_items_Swap_q := by kernel_rfl
end Go.AM
