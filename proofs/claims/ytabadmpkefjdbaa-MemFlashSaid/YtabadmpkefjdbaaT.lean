/-
  The numbers of the element types.
-/
import Derived.Test.YtabadmpkefjdbaaAbs23
namespace Go.Abs.T
def ty_2_sl_uint32 : TypeId := 79
def ty_3_uint16 : TypeId := 23
def ty_api_Code : TypeId := 27
def ty_api_Ins : TypeId := 69
def ty_api_Op : TypeId := 93
def ty_bautalaw05_Act : TypeId := 56
def ty_bautaref05_Mem : TypeId := 60
def ty_bool : TypeId := 4
def ty_int : TypeId := 3
def ty_mem_Mem : TypeId := 98
def ty_sl_int : TypeId := 25
def ty_string : TypeId := 9
def ty_thumb_part : TypeId := 105
def ty_thumb_shape : TypeId := 108
def ty_uint16 : TypeId := 22
def ty_uint32 : TypeId := 42
end Go.Abs.T
